/- Install: the plain law of InstallStays. -/
import Derived.Test.YtnhajhejkecihaaI16
namespace Go.Proofs.Ytnhajhejkecihaa
open Go.RowKit Go.Lib
set_option linter.unusedVariables false
set_option linter.unusedSimpArgs false

theorem frees_window (a b : Nat) : ∀ n, frees (fun i => decide (a ≤ i) && decide (i < a + b)) n + min (n - a) b = n
  | 0 => by simp [frees]
  | n + 1 => by
    have ih := frees_window a b n
    rw [frees_step]
    by_cases h1 : a ≤ n
    · by_cases h2 : n < a + b
      · simp only [h1, h2, decide_true, Bool.and_self, if_true]
        omega
      · simp only [h1, h2, decide_true, decide_false, Bool.and_false, Bool.false_eq_true, if_false]
        omega
    · simp only [h1, decide_false, Bool.false_and, Bool.false_eq_true, if_false]
      omega
def y1 (ba : Bytes) : MS := (MS.new 2).added ba 0
def y2 (ba : Bytes) : MS := (y1 ba).passed 0
def y3 (ba : Bytes) : MS := (y2 ba).passed 1
def y4 (ba : Bytes) : MS := (y3 ba).left 1 0
def y5 (ba : Bytes) : MS := (y4 ba).dropped 0 ((y4 ba).all.getD 0 ME.dflt)
def y6 (ba : Bytes) : MS := (y5 ba).passed 0
def y7 (ba bb : Bytes) : MS := (y6 ba).added bb (lns ba.length)
def y8 (ba bb : Bytes) : MS := (y7 ba bb).passed 0
def y9 (ba bb : Bytes) : MS := (y8 ba bb).left 0 1
def y10 (ba bb : Bytes) : MS := (y9 ba bb).left 1 (-1)
def y11 (ba bb : Bytes) : MS := (y10 ba bb).passed 1
section
variable (ba bb : Bytes)
theorem y3_all : (y3 ba).all = [⟨0, 0, ba, false, [false, false]⟩] := rfl
theorem y6_all : (y6 ba).all = [⟨0, 0, ba, true, [false, true]⟩] := rfl
theorem y9_all : (y9 ba bb).all = [⟨0, 0, ba, true, [false, true]⟩, ⟨1, lns ba.length, bb, false, [false, true]⟩] := rfl
theorem y11_all : (y11 ba bb).all = [⟨1, lns ba.length, bb, false, [false, false]⟩] := rfl
theorem on_of (i a : Nat) (b : Bytes) (d : Bool) (o : List Bool) (k : Nat) : (⟨i, a, b, d, o⟩ : ME).on k = (decide (a ≤ k) && decide (k < a + lns b.length)) := rfl
theorem one_taken (i : Nat) (b : Bytes) (d : Bool) (o : List Bool) : takenB [⟨i, 0, b, d, o⟩] = fun k => decide (k < lns b.length) := by
  funext k
  simp [takenB, on_of]
theorem y0_place (h : 0 < ba.length ∧ ba.length ≤ 60) : (MS.new 2).place ba.length = some 0 := by
  have := seek_prefix (takenB (MS.new 2).all) ba.length 0 h.1 (fun i => by simp [MS.new, takenB])
  unfold MS.place
  rw [this, if_pos (by unfold lns; omega)]
theorem y6_place (h : 0 < ba.length ∧ ba.length ≤ 60) (h2 : 0 < bb.length ∧ bb.length ≤ 60) : (y6 ba).place bb.length = some (lns ba.length) := by
  have := seek_prefix (takenB (y6 ba).all) bb.length (lns ba.length) h2.1 (fun i => by rw [y6_all, one_taken])
  unfold MS.place
  rw [this, if_pos (by unfold lns; omega)]
theorem y3_free : frees (takenB (y3 ba).all) 256 = 256 - lns ba.length := by
  rw [y3_all, one_taken, frees_prefix]
theorem y9_free : frees (takenB (y9 ba bb).all) 256 = 256 - (lns ba.length + lns bb.length) := by
  have e : takenB (y9 ba bb).all = fun k => decide (k < lns ba.length + lns bb.length) := by
    funext k
    rw [y9_all, Bool.eq_iff_iff]
    simp [takenB, on_of]
    omega
  rw [e, frees_prefix]
theorem y11_free (h : 0 < ba.length ∧ ba.length ≤ 60) (h2 : 0 < bb.length ∧ bb.length ≤ 60) : frees (takenB (y11 ba bb).all) 256 = 256 - lns bb.length := by
  have e : takenB (y11 ba bb).all = fun k => decide (lns ba.length ≤ k) && decide (k < lns ba.length + lns bb.length) := by
    funext k
    rw [y11_all]
    simp [takenB, on_of]
  have := frees_window (lns ba.length) (lns bb.length) 256
  rw [e]
  unfold lns at *
  omega
end
end Go.Proofs.Ytnhajhejkecihaa
