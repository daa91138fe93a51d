/- regs: with more registers the locations are the same, plain. -/
import Derived.Test.YtnbpgipbfejllaaDoorMG33
namespace Go.Proofs.YtnbpgipbfejllaaDoor
set_option linter.unusedVariables false
set_option linter.unusedSimpArgs false

theorem runP_more (S : List (Int × Int)) (on : Nat → Bool) (b : Bool) (s : Int → List Int × Int) (l : List Int) (L : Int) (h : ∀ n, s n = (l, max 0 (L + 1 - n))) : ∀ k, ∃ l' L', ∀ n, runP S on n b (s n) k = (l', max 0 (L' + 1 - n))
  | 0 => ⟨l, L, h⟩
  | k + 1 => by
    obtain ⟨l', L', ih⟩ := runP_more S on b s l L h k
    by_cases hc : S.getD k (0, 0) = (-1, -1) ∨ on k ≠ b
    · refine ⟨l', L', fun n => ?_⟩
      show stepP _ _ _ _ _ _ = _
      rw [ih n]
      unfold stepP
      rw [if_pos hc]
    · refine ⟨l'.set k (lowFree (usedOf S l' k l'.length) : Nat), max L' (lowFree (usedOf S l' k l'.length) : Nat), fun n => ?_⟩
      show stepP _ _ _ _ _ _ = _
      rw [ih n]
      unfold stepP
      rw [if_neg hc]
      refine Prod.ext rfl ?_
      show max (max 0 (L' + 1 - n)) (((lowFree (usedOf S l' k l'.length) : Nat) : Int) + 1 - n) = _
      omega
/-- The locations do not hang on the number of registers; the stack is what does not fit. -/
theorem allocP_more (S : List (Int × Int)) (on : Nat → Bool) (N : Nat) : ∃ l L, ∀ n : Int, 0 ≤ n → allocP S on n N = (l, max 0 (L + 1 - n)) := by
  obtain ⟨l1, L1, h1⟩ := runP_more S on true (fun n => (List.replicate N (-1), max 0 (-1 + 1 - n))) (List.replicate N (-1)) (-1) (fun n => rfl) N
  obtain ⟨l2, L2, h2⟩ := runP_more S on false (fun n => (l1, max 0 (L1 + 1 - n))) l1 L1 (fun n => rfl) N
  refine ⟨l2, L2, fun n hn => ?_⟩
  unfold allocP
  have e : ((List.replicate N (-1), 0) : List Int × Int) = (List.replicate N (-1), max 0 (-1 + 1 - n)) := by
    refine Prod.ext rfl ?_
    show (0 : Int) = max 0 (-1 + 1 - n)
    omega
  rw [e, h1 n]
  exact h2 n
theorem more_stack (S : List (Int × Int)) (on : Nat → Bool) (N : Nat) (n m : Int) (hn : 0 ≤ n) (hm : n ≤ m) : (allocP S on n N).1 = (allocP S on m N).1 ∧ (allocP S on m N).2 = max 0 ((allocP S on n N).2 - (m - n)) := by
  obtain ⟨l, L, h⟩ := allocP_more S on N
  rw [h n hn, h m (by omega)]
  exact ⟨rfl, by show max 0 (L + 1 - m) = max 0 (max 0 (L + 1 - n) - (m - n)); omega⟩
end Go.Proofs.YtnbpgipbfejllaaDoor
