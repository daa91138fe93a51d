/- The journal's numbers: value and number. -/
import Derived.Test.YtbmmcdnmbdoglaaRows
import Derived.Test.YtbmmcdnmbdoglaaD10
import Derived.Test.YtbmmcdnmbdoglaaJ0
import Derived.IntWalk
namespace Go.Proofs.Ytbmmcdnmbdoglaa
open Go.RowKit
set_option linter.unusedVariables false

theorem wrap_signed (x : Int) : wrap64 x = signed (x % 18446744073709551616).toNat := by
  unfold wrap64 signed
  split <;> omega
theorem signed_shift (u : Nat) : wrap64 (signed u * 256) = signed (u * 256 % 18446744073709551616) := by
  rw [wrap_signed]
  congr 1
  unfold signed
  split <;> omega
theorem signed_mod (u : Nat) : signed u % 18446744073709551616 = ((u % 18446744073709551616 : Nat) : Int) := by
  unfold signed
  split <;> omega
theorem bits_or (u b : Nat) (hb : b < 256) : bits .or .i64 (signed (u * 256 % 18446744073709551616)) (b : Int) = signed ((u * 256 + b) % 18446744073709551616) := by
  have e1 : BitVec.ofInt 64 (signed (u * 256 % 18446744073709551616)) = BitVec.ofNat 64 (u * 256) := by
    apply BitVec.eq_of_toNat_eq
    rw [BitVec.toNat_ofInt, BitVec.toNat_ofNat]
    have := signed_mod (u * 256 % 18446744073709551616)
    simp only [Nat.mod_mod] at this
    rw [show ((2 ^ 64 : Nat) : Int) = 18446744073709551616 by decide, this, Int.toNat_natCast]
  have e2 : BitVec.ofInt 64 (b : Int) = BitVec.ofNat 64 b := by
    apply BitVec.eq_of_toNat_eq
    rw [BitVec.toNat_ofInt, BitVec.toNat_ofNat, show ((2 ^ 64 : Nat) : Int) = 18446744073709551616 by decide]
    omega
  have e3 : (BitVec.ofNat 64 (u * 256) ||| BitVec.ofNat 64 b).toNat = (u * 256 + b) % 18446744073709551616 := by
    rw [BitVec.toNat_or, BitVec.toNat_ofNat, BitVec.toNat_ofNat]
    have h1 : u * 256 % 2 ^ 64 = 2 ^ 8 * (u % 2 ^ 56) := by omega
    have h2 : b % 2 ^ 64 = b := by omega
    rw [h1, h2, ← Nat.two_pow_add_eq_or_of_lt (show b < 2 ^ 8 by omega)]
    omega
  show IntKind.i64.wrap (((BitVec.ofInt 64 (signed (u * 256 % 18446744073709551616)) ||| BitVec.ofInt 64 (b : Int)).toNat : Nat) : Int) = _
  rw [e1, e2, e3, IntKind.wrap_i64]
  unfold signed
  split <;> omega

theorem natL_step (s : ByteArray) (j k : Nat) (hk : k ≤ 8) (hj : j < k) (b : Nat) (hb : ((bs s).getD j 0).toNat = b) : (natL (bs s) j * 256 + b) % 18446744073709551616 = natL (bs s) (j + 1) := by
  have h1 : natL (bs s) (j + 1) = natL (bs s) j * 256 + b := by rw [← hb]; rfl
  have h2 := natL_lt (bs s) (j + 1)
  have h3 : 256 ^ (j + 1) ≤ 256 ^ 8 := Nat.pow_le_pow_right (by decide) (by omega)
  rw [← h1]
  exact Nat.mod_eq_of_lt (Nat.lt_of_lt_of_le h2 h3)
theorem bs_at (s : ByteArray) (j : Nat) (h : j < s.size) : (bs s).getD j 0 = s[j] := by
  unfold bs
  rw [List.getD_eq_getElem?_getD, List.getElem?_eq_getElem (by simpa using h)]
  rfl
theorem bs_past (s : ByteArray) (j : Nat) (h : ¬ j < s.size) : ((bs s).getD j 0).toNat = 0 := by
  rw [List.getD_eq_getElem?_getD, List.getElem?_eq_none (by rw [bs_length]; omega)]
  rfl

set_option maxHeartbeats 1000000 in
theorem value_any (w : World) (s : ByteArray) (k : Nat) (hk : k ≤ 8) (hs : s.size ≤ 9223372036854775807) :
    Calls Try.prog 24 #[.string s, .int .i64 (k : Int)] w fun e w' => e = .returned (.int .i64 (signed (natL (bs s) k))) ∧ w = w' := by
  have HR := Lib.hid (show ∀ u : Nat, wrap64 (signed u * 256) = signed (u * 256 % 18446744073709551616) from signed_shift)
  go_enter Try.func24, Try.ntmps24
  go_wp2_with fail
  go_loop [5, 8] (fun v i => ∃ j : Nat, j ≤ k ∧ i = .int .i64 (j : Int) ∧ v = .int .i64 (signed (natL (bs s) j))) (fun _ i => k - (intOf i).toNat)
  case atStart => exact ⟨0, by omega, rfl, rfl⟩
  case round =>
    obtain ⟨j, hj, rfl, rfl⟩ := hrel
    by_cases hlt : j < k
    · by_cases hjs : j < s.size
      · have hsb : s[j].toNat < 256 := UInt8.toNat_lt _
        have HN := Lib.hid (natL_step s j k hk hlt s[j].toNat (by rw [bs_at s j hjs]))
        obtain ⟨u, hu⟩ : ∃ u, natL (bs s) j = u := ⟨_, rfl⟩
        rw [hu] at HN
        rw [hu]
        clear hu
        have h1 := HR.out u
        go_wp2_with fail
        exact ⟨⟨j + 1, by omega, by go_num, by rw [bits_or u _ hsb, HN.out]⟩, by simp [intOf]; omega⟩
      · have HN := Lib.hid (natL_step s j k hk hlt 0 (bs_past s j hjs))
        obtain ⟨u, hu⟩ : ∃ u, natL (bs s) j = u := ⟨_, rfl⟩
        rw [hu] at HN
        rw [hu]
        clear hu
        have h1 := HR.out u
        go_wp2_with fail
        exact ⟨⟨j + 1, by omega, by go_num, by rw [h1, ← HN.out, Nat.add_zero]⟩, by simp [intOf]; omega⟩
    · obtain rfl : j = k := by omega
      go_wp2_with fail
      go_ret
      exact ⟨rfl, rfl⟩

theorem byte_of (n j : Nat) (x : UInt8) (hx : UInt8.ofNat (n / 256 ^ j) = x) : (n : Int) / 2 ^ (8 * j) % 256 = (x.toNat : Int) := by
  rw [← hx]
  have e : (UInt8.ofNat (n / 256 ^ j)).toNat = n / 256 ^ j % 256 := by simp
  rw [e, show (256 : Nat) = 2 ^ 8 by rfl, ← Nat.pow_mul]
  simp
/-- The last n of the k bytes of a number, zeros before them. -/
def numR (n k j : Nat) : Bytes := List.replicate (k - j) 0 ++ numL n j
theorem numR_length (n k j : Nat) (h : j ≤ k) : (numR n k j).length = k := by simp [numR, numL_length]; omega
theorem numR_succ (n k j : Nat) (h : j < k) : numR n k (j + 1) = (numR n k j).set (k - 1 - j) (UInt8.ofNat (n / 256 ^ j)) := by
  unfold numR
  rw [show k - j = (k - (j + 1)) + 1 by omega, List.replicate_succ', List.append_assoc, List.set_append_right _ _ (by simp; omega)]
  rw [show k - 1 - j - (List.replicate (k - (j + 1)) (0 : UInt8)).length = 0 by simp; omega]
  rfl

set_option maxHeartbeats 1000000 in
theorem number_any (w : World) (n : Nat) (k : Nat) (hn : n ≤ 9223372036854775807) (hk : k ≤ 8) (hk0 : 1 ≤ k) :
    Calls Try.prog 31 #[.int .i64 (n : Int), .int .i64 (k : Int)] w fun e w' => e = .returned (.string (sb (numL n k))) ∧ Since w.heap.size w w' := by
  have hmk := run_make_row' 43 5 (.int .u8 0) 1 Try.bytes.ht Try.bytes.info rfl .i64 .i64 k (by omega) (by omega) w
  go_enter Try.func31, Try.ntmps31
  go_wp2_with fail
  have hown := own_new w 5 (madeCells #[.int .u8 0] k) k w.heap.size (by simp [madeCells]) (by omega) (Nat.le_refl _)
  have e0 : (madeCells #[.int .u8 0] k).toList = b8 (numR n k 0) := by
    rw [toList_madeCells_one]
    simp [numR, numL, b8]
  rw [e0] at hown
  have HOWN := Lib.hid hown
  have HK0 := Lib.hid (show Keep (fun _ => False) w (w.alloc (.cells (madeCells #[.int .u8 0] k) 5)) from (Keep.refl _ w).alloc' _)
  clear hown e0 hmk
  go_loopw [11] (fun i wr => ∃ j : Nat, j ≤ k ∧ i = .int .i64 j ∧ Hid (wr.ownsRow w.heap.size 5 1 (.slice (some ⟨w.heap.size, 0, none⟩) k k) k (b8 (numR n k j))) ∧ Hid (Keep (fun _ => False) w wr)) (fun i _ => k - (intOf i).toNat)
  case atStart => exact ⟨0, Nat.zero_le _, rfl, HOWN, HK0⟩
  case round =>
    obtain ⟨j, hj, rfl, HO, HK⟩ := hrel
    obtain ⟨wo, rfl⟩ : ∃ wo : World, wo = wr := ⟨_, rfl⟩
    by_cases hlt : j < k
    · have hl : (b8 (numR n k j)).length = k := by rw [b8_length, numR_length n k j hj]
      have hc := HO.out.cellAt (k - 1 - j) (by omega)
      rw [List.getElem?_eq_getElem (by omega)] at hc
      obtain ⟨u0, hu0⟩ : ∃ u0, (b8 (numR n k j))[k - 1 - j]'(by omega) = u0 := ⟨_, rfl⟩
      rw [hu0] at hc
      clear hu0
      have hf := HO.out.frozenAt (k - 1 - j)
      obtain ⟨x, hx⟩ : ∃ x, (UInt8.ofNat (n / 256 ^ j)) = x := ⟨_, rfl⟩
      have hst := (HO.out.stored (k - 1 - j) (.int .u8 (x.toNat : Int))).1
      rw [show (b8 (numR n k j)).set (k - 1 - j) (.int .u8 (x.toNat : Int)) = b8 (numR n k (j + 1)) by rw [numR_succ n k j hlt, hx]; simp [b8, List.map_set]] at hst
      have HST := Lib.hid hst
      have hkk : Keep (fun _ => False) w (wo.setCell ⟨w.heap.size, k - 1 - j, none⟩ (.int .u8 (x.toNat : Int))) := HK.out.then (F' := fun i => i = w.heap.size) (keep_set (Keep.refl _ _) _ _) (fun i hi => .inr (by omega))
      have HKK := Lib.hid hkk
      have HX := Lib.hid (byte_of n j x hx)
      clear hst hl hkk hx
      go_wp2_with fail
      rw [HX.out]
      go_roundw
      case rel => exact ⟨j + 1, by omega, by go_num, HST, HKK⟩
      case measure => simp [intOf]; omega
    · obtain rfl : j = k := by omega
      have hfull : numR n j j = numL n j := by simp [numR]
      have ho := HO.out
      rw [hfull] at ho
      have hback := run_back wo w.heap.size 0 j (numL n j) (by
        intro i hi
        have hi' : i < j := by rw [numL_length] at hi; exact hi
        rw [Nat.zero_add, ho.cellAt i (by omega)]
        simp [b8, numL_length, hi'])
      rw [numL_length] at hback
      clear ho hfull
      go_wp2_with fail
      go_ret
      exact ⟨rfl, Since.of HK.out⟩
end Go.Proofs.Ytbmmcdnmbdoglaa
