/- short; Same. -/
import Derived.Test.YtbmmcdnmbdoglaaJ8
import Derived.Deep.QuietTactic
namespace Go.Proofs.Ytbmmcdnmbdoglaa
open Go.RowKit
set_option linter.unusedVariables false

theorem drewN_drew' (w : World) (q : Nat) : (w.drewN q).drew = w.drewN (q + 1) := by
  show (w.drewN q).drewN 1 = _
  rw [World.drewN_drewN]
def sh (s : ByteArray) : ByteArray := s.extract 0 (min s.size 200)
theorem sh_size (s : ByteArray) : (sh s).size ≤ 200 := by unfold sh; rw [ByteArray.size_extract]; omega
theorem short_any (w : World) (s : ByteArray) (hs : s.size ≤ 9223372036854775807) : Calls Try.prog 15 #[.string s] w fun e w' => e = .returned (.string (sh s)) ∧ w = w' := by
  unfold sh
  obtain ⟨k, hk⟩ : ∃ k : Nat, min s.size 200 = k := ⟨_, rfl⟩
  have hmin : ∀ w, (Builtin.min_ #[3, 3] 3 #[.int .i64 (s.size : Int), .int .i64 200]).run Try.prog w = .ok (.int .i64 (k : Int)) w := by
    intro w
    rw [run_min_int2]
    congr 2
    split <;> omega
  have hk1 : k ≤ s.size := by omega
  rw [hk]
  clear hk
  go_enter Try.func15, Try.ntmps15
  go_wp2_with fail
  go_ret
  exact ⟨rfl, rfl⟩

abbrev StrsAt (w : World) (A : Option Addr) (n : Nat) (l : List Bytes) : Prop := CellsAt w A n (strs l)
theorem StrsAt.len {w : World} {A : Option Addr} {n : Nat} {l : List Bytes} (h : StrsAt w A n l) : l.length = n := by
  have := h.1; simpa [strs] using this
theorem StrsAt.at_ {w : World} {A : Option Addr} {n : Nat} {l : List Bytes} (h : StrsAt w A n l) (k : Nat) (hk : k < n) :
    ∃ b off, A = some ⟨b, off, none⟩ ∧ w.cell? ⟨b, off + k, none⟩ = some (.string (sb (l.getD k []))) := by
  obtain ⟨b, off, e, hc⟩ := CellsAt.at_ h k hk
  refine ⟨b, off, e, ?_⟩
  rw [hc]
  have : k < l.length := by rw [h.len]; exact hk
  simp [strs, List.getD_eq_getElem?_getD, List.getElem?_eq_getElem this]
theorem toList_inj {u v : Bytes} (h : (sb u).toList = (sb v).toList) : u = v := by
  rw [Lib.toList_data, Lib.toList_data] at h
  exact h
theorem same_step (a b : List Bytes) (k : Nat) (h : a.length = b.length) (hk : k < a.length) : (a.drop k = b.drop k) ↔ (a.getD k [] = b.getD k [] ∧ a.drop (k + 1) = b.drop (k + 1)) := by
  have e1 : a.getD k [] = a[k] := by rw [List.getD_eq_getElem?_getD, List.getElem?_eq_getElem hk]; rfl
  have hk' : k < b.length := by omega
  have e2 : b.getD k [] = b[k] := by rw [List.getD_eq_getElem?_getD, List.getElem?_eq_getElem hk']; rfl
  rw [e1, e2, List.drop_eq_getElem_cons hk, List.drop_eq_getElem_cons hk', List.cons.injEq]

set_option maxHeartbeats 1000000 in
theorem same_any {w : World} {A B : Option Addr} {n m ca cb : Nat} {a b : List Bytes} (ha : StrsAt w A n a) (hb : StrsAt w B m b) (r : Bool) (hr : decide (a = b) = r) :
    Calls Try.prog 21 #[.slice A n ca, .slice B m cb] w fun e w' => e = .returned (.bool r) ∧ ∃ i, w' = w.drewN i := by
  have hla := ha.len
  have hlb := hb.len
  have hn := ha.2.1
  have hm := hb.2.1
  by_cases hnm : n = m
  · subst hnm
    have HA := Lib.hid ha
    have HB := Lib.hid hb
    have HL := Lib.hid (And.intro hla hlb)
    have hr0 : (a.drop 0 = b.drop 0) ↔ r = true := by rw [List.drop_zero, List.drop_zero, ← hr]; simp
    have HR0 := Lib.hid hr0
    clear ha hb hla hlb hr hr0
    go_enter Try.func21, Try.ntmps21
    go_wp2_with fail
    go_loopw [5] (fun i wr => ∃ k : Nat, k ≤ n ∧ i = .int .i64 (k : Int) ∧ Hid ((a.drop k = b.drop k ↔ r = true) ∧ ∃ q, wr = w.drewN q)) (fun i _ => n - (intOf i).toNat)
    case atStart => exact ⟨0, by omega, rfl, Lib.hid ⟨HR0.out, 0, rfl⟩⟩
    case round =>
      obtain ⟨k, hk, rfl, HK⟩ := hrel
      obtain ⟨wo, rfl⟩ : ∃ wo : World, wo = wr := ⟨_, rfl⟩
      by_cases hlt : k < n
      · have HW := Lib.hid HK.out.2
        obtain ⟨b1, o1, rfl, x1⟩ := HA.out.at_ k hlt
        obtain ⟨b2, o2, rfl, x2⟩ := HB.out.at_ k hlt
        have y1 : wo.cell? ⟨b1, o1 + k, none⟩ = some (.string (sb (a.getD k []))) := by obtain ⟨q, hq⟩ := HW.out; rw [hq]; exact x1
        have y2 : wo.cell? ⟨b2, o2 + k, none⟩ = some (.string (sb (b.getD k []))) := by obtain ⟨q, hq⟩ := HW.out; rw [hq]; exact x2
        have HS := Lib.hid (same_step a b k (by rw [HL.out.1, HL.out.2]) (by rw [HL.out.1]; exact hlt))
        obtain ⟨u, hu⟩ : ∃ u, a.getD k [] = u := ⟨_, rfl⟩
        obtain ⟨v, hv⟩ : ∃ v, b.getD k [] = v := ⟨_, rfl⟩
        rw [hu] at y1 HS
        rw [hv] at y2 HS
        clear hu hv x1 x2
        by_cases huv : u = v
        · subst huv
          go_wp2_with fail
          go_region
          all_goals go_wp2_with fail
          have HZ := Lib.hid (show (a.drop (k + 1) = b.drop (k + 1) ↔ r = true) ∧ ∃ q, wo.drew = w.drewN q from ⟨⟨fun h => HK.out.1.1 (HS.out.2 ⟨by first | rfl | trivial, h⟩), fun h => (HS.out.1 (HK.out.1.2 h)).2⟩, by obtain ⟨q, hq⟩ := HW.out; exact ⟨q + 1, by rw [hq]; exact drewN_drew' w q⟩⟩)
          all_goals go_roundw
          case rel => exact ⟨k + 1, by omega, by go_num, HZ⟩
          case measure => simp [intOf]; omega
        · have g1 : ((sb u).toList == (sb v).toList) = false := by rw [beq_eq_false_iff_ne]; exact fun h => huv (toList_inj h)
          have HF := Lib.hid (show r = false by cases hrr : r with | false => rfl | true => exact absurd (HS.out.1 (HK.out.1.2 hrr)).1 huv)
          clear huv
          go_wp2_with fail
          go_region
          all_goals go_wp2_with fail
          all_goals go_ret
          all_goals (
            obtain ⟨q, hq⟩ := HW.out
            exact ⟨by rw [HF.out]; rfl, q + 1, by rw [hq]; exact drewN_drew' w q⟩)
      · have HF := Lib.hid (show r = true from HK.out.1.1 (by rw [List.drop_eq_nil_of_le (by rw [HL.out.1]; omega), List.drop_eq_nil_of_le (by rw [HL.out.2]; omega)]))
        have HW := Lib.hid HK.out.2
        go_wp2_with fail
        go_ret
        obtain ⟨q, hq⟩ := HW.out
        exact ⟨by rw [HF.out]; rfl, q, hq⟩
  · have HF := Lib.hid (show r = false by rw [← hr]; simp; intro h; rw [h] at hla; omega)
    have g1 : ((n : Int) == (m : Int)) = false := by simpa using by omega
    have g2 : ((n : Int) != (m : Int)) = true := by simpa using by omega
    have g3 : (n == m) = false := by simpa using hnm
    have g4 : (n != m) = true := by simpa using hnm
    clear ha hb hla hlb hr
    go_enter Try.func21, Try.ntmps21
    go_wp2_with fail
    go_ret
    exact ⟨by rw [HF.out]; rfl, 0, rfl⟩
end Go.Proofs.Ytbmmcdnmbdoglaa
