/- RegsFewest, plain: as many locations as spans that hold one place. -/
import Derived.Test.YtnbpgipbfejllaaDoorMG33
namespace Go.Proofs.YtnbpgipbfejllaaDoor
open Go.RowKit Go.Lib
set_option linter.unusedVariables false
set_option linter.unusedSimpArgs false

theorem countP_or {α : Type} (p q r : α → Bool) (h : ∀ x, p x = true → q x = true → False) (hr : ∀ x, r x = (p x || q x)) : ∀ l : List α, l.countP r = l.countP p + l.countP q
  | [] => rfl
  | a :: l => by
    rw [List.countP_cons, List.countP_cons, List.countP_cons, countP_or p q r h hr l, hr a]
    cases hp : p a with
    | false => simp; omega
    | true =>
      cases hq : q a with
      | false => simp; omega
      | true => exact (h a hp hq).elim
theorem countP_one (q : Nat → Bool) : ∀ N, (∀ i j, i < N → j < N → q i = true → q j = true → i = j) → (List.range N).countP q ≤ 1
  | 0, _ => by simp
  | N + 1, h => by
    rw [List.range_succ, List.countP_append]
    cases hq : q N with
    | false =>
      have := countP_one q N (fun i j hi hj => h i j (by omega) (by omega))
      simp [hq]
      exact this
    | true =>
      have h0 : (List.range N).countP q = 0 := by
        rw [List.countP_eq_zero]
        intro i hi hqi
        have := h i N (by have := List.mem_range.1 hi; omega) (by omega) hqi hq
        have := List.mem_range.1 hi
        omega
      rw [h0]
      simp [hq]
/-- At least as many as there are values. -/
theorem pig1 (P : Nat → Bool) (loc : Nat → Int) (N : Nat) : ∀ v : Nat, (∀ i : Nat, i ≤ v → ∃ j, j < N ∧ loc j = (i : Int) ∧ P j = true) → v + 1 ≤ (List.range N).countP (fun j => P j && (decide (0 ≤ loc j) && decide (loc j ≤ (v : Int))))
  | 0, h => by
    obtain ⟨j, hj, hl, hp⟩ := h 0 (Nat.le_refl _)
    have : 0 < (List.range N).countP (fun j => P j && (decide (0 ≤ loc j) && decide (loc j ≤ ((0 : Nat) : Int)))) := List.countP_pos_iff.2 ⟨j, List.mem_range.2 hj, by simp [hp, hl]⟩
    omega
  | v + 1, h => by
    have ih := pig1 P loc N v (fun i hi => h i (by omega))
    obtain ⟨j, hj, hl, hp⟩ := h (v + 1) (Nat.le_refl _)
    have h1 : 0 < (List.range N).countP (fun j => P j && decide (loc j = ((v + 1 : Nat) : Int))) := List.countP_pos_iff.2 ⟨j, List.mem_range.2 hj, by simp [hp, hl]⟩
    rw [countP_or (fun j => P j && (decide (0 ≤ loc j) && decide (loc j ≤ (v : Int)))) (fun j => P j && decide (loc j = ((v + 1 : Nat) : Int))) _ (fun x a b => by simp at a b; omega) (fun x => by
      cases P x with
      | false => rfl
      | true =>
        simp only [Bool.true_and]
        rw [Bool.eq_iff_iff]
        simp only [Bool.and_eq_true, Bool.or_eq_true, decide_eq_true_eq]
        omega)]
    omega
/-- At most as many as there are values. -/
theorem pig2 (P : Nat → Bool) (loc : Nat → Int) (N : Nat) (hi : ∀ i j, i < N → j < N → P i = true → P j = true → loc i = loc j → i = j) : ∀ L : Nat, (List.range N).countP (fun j => P j && (decide (0 ≤ loc j) && decide (loc j < (L : Int)))) ≤ L
  | 0 => by
    rw [Nat.le_zero, List.countP_eq_zero]
    intro j _ h
    simp at h
    omega
  | L + 1 => by
    have ih := pig2 P loc N hi L
    have h1 := countP_one (fun j => P j && decide (loc j = (L : Int))) N (fun i j a b c d => by
      simp only [Bool.and_eq_true, decide_eq_true_eq] at c d
      exact hi i j a b c.1 d.1 (by omega))
    rw [countP_or (fun j => P j && (decide (0 ≤ loc j) && decide (loc j < (L : Int)))) (fun j => P j && decide (loc j = (L : Int))) _ (fun x a b => by simp at a b; omega) (fun x => by
      cases P x with
      | false => rfl
      | true =>
        simp only [Bool.true_and]
        rw [Bool.eq_iff_iff]
        simp only [Bool.and_eq_true, Bool.or_eq_true, decide_eq_true_eq]
        omega)]
    omega
/-- A span holds a place. -/
def inS (s : Int × Int) (p : Nat) : Bool := decide (0 ≤ s.1) && (decide (s.1 ≤ (p : Int)) && decide ((p : Int) < s.2))
def cntTo (S : List (Int × Int)) (p k : Nat) : Nat := (List.range k).countP fun j => inS (S.getD j (0, 0)) p
def mostTo (S : List (Int × Int)) (N : Nat) : Nat → Nat
  | 0 => 0
  | p + 1 => max (mostTo S N p) (cntTo S p N)
theorem le_most (S : List (Int × Int)) (N : Nat) {p : Nat} : ∀ {k : Nat}, p < k → cntTo S p N ≤ mostTo S N k
  | 0, h => by omega
  | k + 1, h => by
    unfold mostTo
    by_cases e : p = k
    · subst e; omega
    · have := le_most S N (p := p) (k := k) (by omega)
      omega
theorem most_le (S : List (Int × Int)) (N L : Nat) (h : ∀ p, p < N → cntTo S p N ≤ L) : ∀ k, k ≤ N → mostTo S N k ≤ L
  | 0, _ => by unfold mostTo; omega
  | k + 1, hk => by
    unfold mostTo
    have := most_le S N L h k (by omega)
    have := h k (by omega)
    omega
/-- How many locations there are. -/
def locAll : List Int → Int
  | [] => 0
  | a :: l => max (a + 1) (locAll l)
theorem locAll_pos : ∀ l : List Int, 0 ≤ locAll l
  | [] => Int.le_refl _
  | a :: l => by unfold locAll; have := locAll_pos l; omega
theorem locAll_rep : ∀ N, locAll (List.replicate N (-1)) = 0
  | 0 => rfl
  | N + 1 => by rw [List.replicate_succ, locAll, locAll_rep N]; rfl
theorem locAll_set : ∀ (l : List Int) (k : Nat) (v : Int), k < l.length → l.getD k (-1) = -1 → 0 ≤ v → locAll (l.set k v) = max (locAll l) (v + 1)
  | [], _, _, h, _, _ => by simp at h
  | a :: l, 0, v, _, h1, h2 => by
    have : a = -1 := h1
    subst this
    rw [List.set_cons_zero, locAll, locAll]
    have := locAll_pos l
    omega
  | a :: l, k + 1, v, h, h1, h2 => by
    rw [List.set_cons_succ, locAll, locAll, locAll_set l k v (by simpa using h) h1 h2]
    omega
theorem locAll_lt : ∀ (l : List Int) (k : Nat), k < l.length → l.getD k (-1) < locAll l
  | [], _, h => by simp at h
  | a :: l, 0, _ => by rw [List.getD_cons_zero, locAll]; omega
  | a :: l, k + 1, h => by
    rw [List.getD_cons_succ, locAll]
    have := locAll_lt l k (by simpa using h)
    omega
theorem locAll_hit : ∀ (l : List Int), 0 < locAll l → ∃ k, k < l.length ∧ l.getD k (-1) + 1 = locAll l
  | [], h => by simp [locAll] at h
  | a :: l, h => by
    unfold locAll at h ⊢
    by_cases e : locAll l ≤ a + 1
    · exact ⟨0, by simp, by rw [List.getD_cons_zero]; omega⟩
    · obtain ⟨k, hk, e2⟩ := locAll_hit l (by omega)
      exact ⟨k + 1, by simpa using hk, by rw [List.getD_cons_succ]; omega⟩
/-- What the spans are like. -/
structure SpanOK (S : List (Int × Int)) (on : Nat → Bool) (N : Nat) : Prop where
  start : ∀ k, k < N → ¬ S.getD k (0, 0) = (-1, -1) → (S.getD k (0, 0)).1 = if on k then 0 else (k : Int)
  fin : ∀ k, k < N → ¬ S.getD k (0, 0) = (-1, -1) → (S.getD k (0, 0)).1 < (S.getD k (0, 0)).2
/-- The state while locations are given. -/
structure FInv (S : List (Int × Int)) (on : Nat → Bool) (n : Int) (N : Nat) (b : Bool) (k : Nat) (s : List Int × Int) : Prop where
  ai : AInv on N b k s.1
  some : ∀ j, j < N → 0 ≤ s.1.getD j (-1) → ¬ S.getD j (0, 0) = (-1, -1)
  apart : ∀ i j, i < N → j < N → i ≠ j → 0 ≤ s.1.getD i (-1) → s.1.getD i (-1) = s.1.getD j (-1) → confl (S.getD i (0, 0)) (S.getD j (0, 0)) = false
  near : ∀ j, j < N → 0 ≤ s.1.getD j (-1) → ∃ p, p < N ∧ ∀ i : Nat, (i : Int) ≤ s.1.getD j (-1) → ∃ m, m < N ∧ s.1.getD m (-1) = (i : Int) ∧ inS (S.getD m (0, 0)) p = true
  all : ∀ j, j < N → hadTurn on b k j = true → ¬ S.getD j (0, 0) = (-1, -1) → 0 ≤ s.1.getD j (-1)
  stack : s.2 = max 0 (locAll s.1 - n)
end Go.Proofs.YtnbpgipbfejllaaDoor
