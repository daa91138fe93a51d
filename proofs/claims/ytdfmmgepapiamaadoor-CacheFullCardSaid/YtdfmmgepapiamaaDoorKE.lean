/- slices.Equal on []int. -/
import Derived.Test.YtdfmmgepapiamaaDoorKB
namespace Go.Proofs.YtdfmmgepapiamaaDoor
open Go.RowKit
set_option linter.unusedVariables false
theorem Tryd.ints : OneTy Tryd.prog 37 3 (.int .i64 0) 8 := ⟨Tryd.underlying37, by kernel_rfl, rfl⟩
theorem equal_ne (A1 A2 : Option Addr) (n1 c1 n2 c2 : Nat) (w : World) (h : ((n1 : Int) != (n2 : Int)) = true) :
    Calls Tryd.prog 22 #[.slice A1 n1 c1, .slice A2 n2 c2] w fun e w' => e = .returned (.bool false) ∧ ∃ k, w' = w.drewN k := by
  go_enter Tryd.func22, Tryd.ntmps22
  go_wp2
  go_ret
  exact ⟨rfl, 0, rfl⟩

def Pre (xs ys : List Int) (k : Nat) : Prop := ∀ j, j < k → xs.getD j 0 = ys.getD j 0
theorem Pre.zero (xs ys : List Int) : Pre xs ys 0 := fun j h => absurd h (by omega)
theorem Pre.succ {xs ys : List Int} {k : Nat} (h : Pre xs ys k) (e : xs.getD k 0 = ys.getD k 0) : Pre xs ys (k + 1) := fun j hj => by
  rcases Nat.lt_succ_iff_lt_or_eq.1 hj with h1 | rfl
  · exact h j h1
  · exact e
theorem Pre.all {xs ys : List Int} {n : Nat} (h : Pre xs ys n) (h1 : xs.length = n) (h2 : ys.length = n) : xs = ys := by
  apply List.ext_getElem (by omega)
  intro i hi hi'
  have := h i (by omega)
  simpa [List.getD_eq_getElem?_getD, List.getElem?_eq_getElem hi, List.getElem?_eq_getElem hi'] using this

theorem equal_same (A1 A2 : Option Addr) (n c1 c2 : Nat) (xs ys : List Int) (w : World) (h1 : IntsAt w A1 n xs) (h2 : IntsAt w A2 n ys) :
    Calls Tryd.prog 22 #[.slice A1 n c1, .slice A2 n c2] w fun e w' => e = .returned (.bool (decide (xs = ys))) ∧ ∃ k, w' = w.drewN k := by
  have hn := h1.bound
  have H1 := Lib.hid h1; clear h1
  have H2 := Lib.hid h2; clear h2
  have hend : ∀ k : Nat, Pre xs ys k → (k < n → xs.getD k 0 ≠ ys.getD k 0) → k ≤ n → decide (xs = ys) = decide (k = n) := by
    intro k hp hne hk
    by_cases hkn : k = n
    · subst hkn
      simp [hp.all H1.out.length H2.out.length]
    · have := hne (by omega)
      have hne' : xs ≠ ys := fun e => this (by rw [e])
      simp [hkn, hne']
  have HE := Lib.hid hend; clear hend
  go_enter Tryd.func22, Tryd.ntmps22
  go_wp2
  go_loopw [13] (fun i wr => ∃ k : Nat, k ≤ n ∧ i = .int .i64 k ∧ (∃ q, wr = w.drewN q) ∧ Pre xs ys k) (fun i _ => n - (intOf i).toNat)
  case atStart => exact ⟨0, by omega, rfl, ⟨0, rfl⟩, Pre.zero _ _⟩
  case round =>
    obtain ⟨k, hk, rfl, ⟨q, rfl⟩, hpre⟩ := hrel
    have HP := Lib.hid hpre; clear hpre
    by_cases hlt : k < n
    · obtain ⟨e1, o1, rfl, g1⟩ := IntsAt.at_ H1.out k hlt
      obtain ⟨e2, o2, rfl, g2⟩ := IntsAt.at_ H2.out k hlt
      by_cases hx : xs.getD k 0 = ys.getD k 0
      · have hb : (xs[k]?.getD 0 != ys[k]?.getD 0) = false := by simpa [List.getD_eq_getElem?_getD] using hx
        have HX := Lib.hid hx; clear hx
        go_wp2
        go_quiet (fail)
        go_wp2
        go_roundw
        case rel => exact ⟨k + 1, by omega, by go_num, ⟨_, rfl⟩, HP.out.succ HX.out⟩
        case measure => simp [intOf]; omega
      · have hb : (xs[k]?.getD 0 != ys[k]?.getD 0) = true := by simpa [List.getD_eq_getElem?_getD] using hx
        have HX := Lib.hid hx; clear hx
        go_wp2
        go_quiet (fail)
        go_wp2
        go_ret
        refine ⟨?_, _, World.drewN_drewN ..⟩
        rw [HE.out k HP.out (fun _ => HX.out) hk]
        simp [Nat.ne_of_lt hlt]
    · obtain rfl : k = n := by omega
      go_wp2
      go_ret
      refine ⟨?_, _, rfl⟩
      rw [HE.out k HP.out (fun h => absurd h (by omega)) hk]
      simp

theorem equal_any (A1 A2 : Option Addr) (n1 n2 c1 c2 : Nat) (xs ys : List Int) (w : World) (h1 : IntsAt w A1 n1 xs) (h2 : IntsAt w A2 n2 ys) :
    Calls Tryd.prog 22 #[.slice A1 n1 c1, .slice A2 n2 c2] w fun e w' => e = .returned (.bool (decide (xs = ys))) ∧ ∃ k, w' = w.drewN k := by
  by_cases h : n1 = n2
  · subst h
    exact equal_same A1 A2 n1 c1 c2 xs ys w h1 h2
  · have hne : xs ≠ ys := fun e => h (by rw [← h1.length, ← h2.length, e])
    simp only [hne, decide_false]
    exact equal_ne A1 A2 n1 c1 n2 c2 w (by simpa using (by omega : (n1 : Int) ≠ n2))

end Go.Proofs.YtdfmmgepapiamaaDoor
