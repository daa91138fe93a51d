/- The contract of the reference's Spend. -/
import Derived.Test.YtbbeoeoengogpaaA1
namespace Go.Proofs.Ytbbeoeoengogpaa
open Go.RowKit
set_option linter.unusedVariables false

theorem refspend_no (A : Option Addr) (n c : Nat) (xs : List Int) (t m : Int) (w : World) (h : IntsAt w A n xs) (hno : spends xs t m = false) :
    Calls Try.prog 14 #[.slice A n c, .int .i64 t, .int .i64 m] w fun e w' => e = .returned (.tuple #[.slice none 0 0, .bool false]) ∧ w = w' := by
  have hl := h.length
  have hb := h.bound
  have H := Lib.hid h; clear h
  have HN := Lib.hid hno; clear hno
  have HL := Lib.hid hl; clear hl
  by_cases h3 : m < 0
  · have g3 : decide (m < 0) = true := by simpa using h3
    go_enter Try.func14, Try.ntmps14
    go_wp2_with fail
    go_ret2
    exact ⟨rfl, rfl⟩
  · have g3 : decide (m < 0) = false := by simp; omega
    by_cases h1 : t < 0
    · have g1 : decide (t < 0) = true := by simpa using h1
      go_enter Try.func14, Try.ntmps14
      go_wp2_with fail
      go_ret2
      exact ⟨rfl, rfl⟩
    · have g1 : decide (t < 0) = false := by simp; omega
      by_cases h2 : t < n
      · have g2 : decide ((n : Int) ≤ t) = false := by simp; omega
        obtain ⟨b, off, rfl, hc⟩ := IntsAt.at_ H.out t.toNat (by omega)
        have g4 : decide (xs[t.toNat]?.getD 0 < m) = true := by
          have := HN.out
          simp only [spends, HL.out, Bool.and_eq_false_iff, decide_eq_false_iff_not, List.getD_eq_getElem?_getD] at this
          simp only [decide_eq_true_eq]
          omega
        go_enter Try.func14, Try.ntmps14
        go_wp2_with fail
        go_ret2
        exact ⟨rfl, rfl⟩
      · have g2 : decide ((n : Int) ≤ t) = true := by simp; omega
        go_enter Try.func14, Try.ntmps14
        go_wp2_with fail
        go_ret2
        exact ⟨rfl, rfl⟩

theorem take_snoc (xs : List Int) (k : Nat) (h : k < xs.length) : ints (xs.take k) ++ [.int .i64 (xs.getD k 0)] = ints (xs.take (k + 1)) := by
  rw [List.take_succ_eq_append_getElem h, ints_append]
  simp [ints, List.getD_eq_getElem?_getD, List.getElem?_eq_getElem h]

theorem refspend_yes (A : Option Addr) (n c : Nat) (xs : List Int) (t m : Int) (w : World) (h : IntsAt w A n xs) (hn : n * 8 ≤ 140737488351232)
    (hw : ∀ x ∈ xs, x ≤ 9223372036854775807) (hyes : spends xs t m = true) :
    Calls Try.prog 14 #[.slice A n c, .int .i64 t, .int .i64 m] w fun e w' => ∃ v, e = .returned (.tuple #[v, .bool true]) ∧ w'.ownsRow w.heap.size 3 1 v n (ints (spent xs t m)) ∧ Below w.heap.size w w' := by
  have hl := h.length
  simp only [spends, Bool.and_eq_true, decide_eq_true_eq, hl] at hyes
  obtain ⟨⟨⟨t0, t1⟩, m0⟩, mx⟩ := hyes
  have hx : xs.getD t.toNat 0 ≤ 9223372036854775807 := by
    have : t.toNat < xs.length := by omega
    simp only [List.getD_eq_getElem?_getD, List.getElem?_eq_getElem this]
    exact hw _ (List.getElem_mem _)
  obtain ⟨k, rfl⟩ := Int.eq_ofNat_of_zero_le t0
  have hk : k < n := by simpa using t1
  have HI := Lib.hid (fun w1 (hb : Below w.heap.size w w1) => h.below hb)
  obtain ⟨b, off, rfl, hc⟩ := IntsAt.at_ h k hk
  have hbnd := h.bound
  have HL := Lib.hid hl; clear hl h
  have g3 : decide (m < 0) = false := by simp; omega
  have g1 : decide ((k : Int) < 0) = false := by simp
  have g2 : decide (n ≤ k) = false := by simp; omega
  simp only [Int.toNat_natCast, List.getD_eq_getElem?_getD] at mx hx
  have g4 : decide (xs[k]?.getD 0 < m) = false := by simp; omega
  go_enter Try.func14, Try.ntmps14
  go_wp2_with fail
  go_loopw [8, 9] (fun v i wr => ∃ j : Nat, j ≤ n ∧ i = .int .i64 j ∧ wr.ownsRow w.heap.size 3 1 v j (ints (xs.take j)) ∧ Below w.heap.size w wr) (fun _ i _ => n - (intOf i).toNat)
  case atStart => exact ⟨0, by omega, rfl, by simpa [ints] using World.ownsRow_nil _ _ _ _, Below.refl _ _⟩
  case round =>
    obtain ⟨j, hj, rfl, hown, hbel⟩ := hrel
    have HO := Lib.hid hown; clear hown
    have HB := Lib.hid hbel; clear hbel
    have hsz : w.heap.size ≤ wr.heap.size := HB.out.size
    by_cases hlt : j < n
    · obtain ⟨_, _, e1, hcj⟩ := IntsAt.at_ (HI.out _ HB.out) j hlt
      cases e1
      go_wp2_with (at_builtin; refine wpList_append_src 22 3 _ 8 w.heap.size Try.ints _ _ rfl rfl _ j (ints (xs.take j)) rfl (by exact HO.out.alloc _) _ 1 1 (ints [xs.getD j 0]) rfl ?_ ?_ (ints_one _) ?_ (by decide) ?_ ?_)
      · intro h; cases h
      · exact cells_new _ _ _
      · omega
      · simp; omega
      · intro v' w' hown hg hnil hblk
        have hown' : w'.ownsRow w.heap.size 3 1 v' (j + 1) (ints (xs.take (j + 1))) := by
          rw [← take_snoc _ _ (by rw [HL.out]; exact hlt)]
          exact hown
        have hbel' : Below w.heap.size w w' := (HB.out.alloc hsz _).grown hg (by simp; omega) (fun q hq => (HO.out.lt q hq).1)
        have HO' := Lib.hid hown'
        have HB' := Lib.hid hbel'
        clear hown hg hnil hblk hown' hbel'
        go_wp2
        go_roundw
        case rel => exact ⟨j + 1, by omega, by go_num, HO'.out, HB'.out⟩
        case measure => simp [intOf]; omega
    · obtain rfl : j = n := by omega
      have hown := HO.out
      rw [List.take_of_length_le (by rw [HL.out]; exact Nat.le_refl _)] at hown
      obtain ⟨g, cap, hv, hg, hgs⟩ := own_form hown (by omega)
      rw [hv] at hown
      have hcell := own_cell hown k hk
      have hfr := hown.frozenAt k
      have HW := Lib.hid hown; clear hown
      simp only [List.getD_eq_getElem?_getD] at hcell
      rw [hv]
      clear hv
      go_wp2_with fail
      go_ret2
      refine ⟨_, rfl, ?_, HB.out.setCell hg _⟩
      simpa [spent] using own_set HW.out k (xs.getD k 0 - m)
end Go.Proofs.Ytbbeoeoengogpaa
