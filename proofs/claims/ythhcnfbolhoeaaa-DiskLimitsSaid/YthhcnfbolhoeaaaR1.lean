/- The reference model of a disk in memory: Put. -/
import Derived.Test.YthhcnfbolhoeaaaD10
import Derived.Deep.OwnRows
namespace Go.Proofs.Ythhcnfbolhoeaaa
open Go.RowKit
set_option linter.unusedVariables false

theorem bs_append (a b : ByteArray) : bs (a ++ b) = bs a ++ bs b := by simp [bs, ByteArray.data_append]
theorem sb_append (a b : Bytes) : sb (a ++ b) = sb a ++ sb b := by
  rw [← sb_bs (sb a ++ sb b), bs_append, bs_sb, bs_sb]
theorem size_append (a b : ByteArray) : (a ++ b).size = a.size + b.size := by rw [← bs_length, bs_append, List.length_append, bs_length, bs_length]
def padL (c : Bytes) (off : Nat) : Bytes := c ++ List.replicate (off - c.length) 0
theorem padL_length (c : Bytes) (off : Nat) : (padL c off).length = max c.length off := by simp [padL]; omega
theorem padL_self (c : Bytes) (off : Nat) (h : off ≤ c.length) : padL c off = c := by simp [padL, show off - c.length = 0 by omega]
theorem putL_pad_end (c : Bytes) (off : Nat) (s : Bytes) (h : (padL c off).length ≤ off + s.length) : putL c off s = (padL c off).take off ++ s := by
  rw [padL_length] at h
  unfold putL padL
  rw [List.drop_eq_nil_of_le (by simp; omega), List.append_nil]
  congr 1
  simp only [List.take_append, List.take_replicate]
  congr 2
  omega
theorem putL_pad_mid (c : Bytes) (off : Nat) (s : Bytes) (h : off + s.length ≤ (padL c off).length) : putL c off s = (padL c off).take off ++ s ++ (padL c off).drop (off + s.length) := by
  rw [padL_length] at h
  by_cases hc : off ≤ c.length
  · rw [padL_self c off hc]
    unfold putL
    rw [show off + s.length - c.length = 0 by omega]
    simp
  · rw [putL_pad_end c off s (by rw [padL_length]; omega), List.drop_eq_nil_of_le (by rw [padL_length]; omega), List.append_nil]

set_option maxHeartbeats 4000000 in
theorem put_ref (w : World) (c s : ByteArray) (off : Nat) (h1 : c.size ≤ 16777216) (h2 : off + s.size ≤ 16777216) :
    Calls Try.prog 38 #[.string c, .int .i64 (off : Int), .string s] w fun e w' => e = .returned (.string (sb (putL (bs c) off (bs s)))) ∧ Keep (fun _ => False) w w' := by
  go_enter Try.func38, Try.ntmps38
  go_wp2_with fail
  go_loopw [0] (fun u wr => ∃ v : ByteArray, u = .string v ∧ (Hid (v = c) ∨ Hid (bs v = padL (bs c) off)) ∧ Hid (Keep (fun _ => False) w wr)) (fun u _ => off - strSize u)
  case atStart => exact ⟨c, rfl, .inl (Lib.hid rfl), Lib.hid (Keep.refl _ _)⟩
  case round =>
    obtain ⟨v, rfl, hv, HK⟩ := hrel
    obtain ⟨wo, rfl⟩ : ∃ wo : World, wo = wr := ⟨_, rfl⟩
    by_cases hlt : v.size < off
    · have hvc : v = c := by
        rcases hv with hv | hv
        · exact hv.out
        · have h3 := congrArg List.length hv.out
          rw [bs_length, padL_length] at h3
          omega
      subst hvc
      clear hv
      obtain ⟨m, hm⟩ : ∃ m : Nat, off - v.size = m := ⟨_, rfl⟩
      have hmI : (off : Int) - v.size = (m : Int) := by omega
      have hmk := run_make_row' 56 5 (.int .u8 0) 1 Try.bytes.ht Try.bytes.info rfl .i64 .i64 m (by omega) (by omega) wo
      have hown := own_new wo 5 (madeCells #[.int .u8 0] m) m wo.heap.size (by simp [madeCells]) (by omega) (Nat.le_refl _)
      rw [toList_madeCells_one, b8_zeros] at hown
      have hback := run_back (wo.alloc (.cells (madeCells #[.int .u8 0] m) 5)) wo.heap.size 0 m (List.replicate m 0) (by
        intro j hj
        have hj' : j < m := by simpa using hj
        rw [Nat.zero_add, hown.cellAt j (by omega)]
        simp [b8, hj'])
      rw [List.length_replicate] at hback
      have hadd : v.size + (sb (List.replicate m 0)).size ≤ 9223372036854775807 := by rw [sb_size, List.length_replicate]; omega
      have hsz0 : (sb (List.replicate m 0)).size = m := by rw [sb_size, List.length_replicate]
      have HM := Lib.hid hm
      obtain ⟨z, hz⟩ : ∃ z, sb (List.replicate m 0) = z := ⟨_, rfl⟩
      rw [hz] at hback hadd hsz0
      have HZ := Lib.hid hz
      have hadd' := hadd
      clear hm hown hz
      have hkn : Keep (fun _ => False) w (wo.alloc (.cells (madeCells #[.int .u8 0] m) 5)) := HK.out.alloc' _
      have HKN := Lib.hid hkn
      clear hkn
      go_wp2_with fail
      go_roundw
      case rel => exact ⟨v ++ z, rfl, .inr (Lib.hid (by rw [bs_append, ← HZ.out, bs_sb, padL, bs_length, HM.out])), HKN⟩
      case measure =>
        show off - (v ++ z).size < off - v.size
        rw [size_append]
        have := HM.out
        omega
    · have hv2 : bs v = padL (bs c) off := by
        rcases hv with hv | hv
        · rw [hv.out, padL_self]
          rw [bs_length, ← hv.out]; omega
        · exact hv.out
      have HV := Lib.hid hv2
      clear hv hv2
      have hvs : v.size ≤ 16777216 := by
        have h3 := congrArg List.length HV.out
        rw [bs_length, padL_length, bs_length] at h3
        omega
      by_cases he : v.size ≤ off + s.size
      · have hx1 : (v.extract 0 off).size = off := by rw [ByteArray.size_extract]; omega
        have hx2 : (v.extract 0 off).size + s.size ≤ 9223372036854775807 := by omega
        have hx3 : off ≤ v.size := by omega
        have hxe : bs (v.extract 0 off ++ s) = putL (bs c) off (bs s) := by
          rw [bs_append, bs_take, putL_pad_end (bs c) off (bs s) (by rw [← HV.out, bs_length, bs_length]; exact he), HV.out]
        obtain ⟨x, hx⟩ : ∃ x, v.extract 0 off ++ s = x := ⟨_, rfl⟩
        rw [hx] at hxe
        have hres : x = sb (putL (bs c) off (bs s)) := by rw [← hxe, sb_bs]
        have HX := Lib.hid hx
        have HRES := Lib.hid hres
        clear hx hxe hres
        go_wp2_with fail
        go_ret
        exact ⟨by rw [← HRES.out, ← HX.out]; rfl, HK.out⟩
      · have hx1 : (v.extract 0 off).size = off := by rw [ByteArray.size_extract]; omega
        have hx2 : (v.extract 0 off).size + s.size ≤ 9223372036854775807 := by omega
        have hx3 : off ≤ v.size := by omega
        have hx4 : off + s.size ≤ v.size := by omega
        have hxe : bs (v.extract 0 off ++ s ++ v.extract (off + s.size) v.size) = putL (bs c) off (bs s) := by
          rw [bs_append, bs_append, bs_take, bs_drop, putL_pad_mid (bs c) off (bs s) (by rw [← HV.out, bs_length, bs_length]; omega), HV.out, bs_length]
        have HRES := Lib.hid hxe
        clear hxe
        go_wp2_with fail
        go_region
        all_goals go_wp2_with fail
        all_goals go_ret
        all_goals exact ⟨by rw [← HRES.out, sb_bs]; rfl, HK.out.trans (keep_draw _ wo)⟩
end Go.Proofs.Ythhcnfbolhoeaaa
