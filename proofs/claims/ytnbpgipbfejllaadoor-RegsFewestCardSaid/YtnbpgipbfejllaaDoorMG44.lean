/- regs: a span contains the uses of its value, plain. -/
import Derived.Test.YtnbpgipbfejllaaDoorMG42
namespace Go.Proofs.YtnbpgipbfejllaaDoor
open Go.RowKit Go.Lib
set_option linter.unusedVariables false
set_option linter.unusedSimpArgs false

theorem le_last : ∀ (l : List Nat), l.Pairwise (· < ·) → ∀ u ∈ l, u ≤ l.getD (l.length - 1) 0
  | [], _, u, hu => by cases hu
  | [a], _, u, hu => by
    obtain rfl := List.mem_singleton.1 hu
    exact Nat.le_refl _
  | a :: b :: l, h, u, hu => by
    have e : (a :: b :: l).getD ((a :: b :: l).length - 1) 0 = (b :: l).getD ((b :: l).length - 1) 0 := by
      simp [List.getD_cons_succ]
    rw [e]
    have hp := List.pairwise_cons.1 h
    rcases List.mem_cons.1 hu with rfl | hu
    · exact Nat.le_trans (Nat.le_of_lt (hp.1 b (.head _))) (le_last (b :: l) hp.2 b (.head _))
    · exact le_last (b :: l) hp.2 u hu
theorem usedAt_after {P : Nat} {T : TR} (h : RightT P T) {v k : Nat} (hk : k < T.ins.length) (hu : T.usedAt v k = true) : v < k := by
  unfold TR.usedAt at hu
  rw [Bool.or_eq_true] at hu
  rcases hu with hu | hu
  · obtain ⟨u, e, hlt, _⟩ := (h.good.shape k hk).1.uses_vb _ (of_decide_eq_true hu)
    omega
  · rw [Bool.and_eq_true] at hu
    obtain ⟨h1, h2⟩ := hu
    rw [names_rows] at h2
    obtain ⟨l, hl, hv⟩ := List.mem_flatten.1 (of_decide_eq_true h2)
    obtain ⟨f, hf, rfl⟩ := List.mem_map.1 hl
    rcases ((h.good.exit k hk (of_decide_eq_true h1)).2.each f hf).2.2.2 _ hv with e | ⟨u, e, hlt, _⟩
    · omega
    · omega
theorem uses_mem {T : TR} {v N u : Nat} : u ∈ T.usesTo v N ↔ u < N ∧ T.usedAt v u = true := by
  unfold TR.usesTo
  simp [List.mem_filter]
theorem uses_sorted (T : TR) (v N : Nat) : (T.usesTo v N).Pairwise (· < ·) := List.Pairwise.filter _ List.pairwise_lt_range
/-- What RegsSpans asks of one instruction. -/
theorem span_uses {P : Nat} {T : TR} (h : RightT P T) {k u : Nat} (hk : k < T.ins.length) (hu : u ∈ T.usesTo k T.ins.length) : k < u ∧ (u : Int) ≤ (T.span k).2 := by
  obtain ⟨h1, h2⟩ := uses_mem.1 hu
  refine ⟨usedAt_after h h1 h2, ?_⟩
  unfold TR.span
  split
  · show (u : Int) ≤ (T.ins.length : Int) - 1
    omega
  · rw [if_neg (fun e => by rw [List.length_eq_zero_iff.1 e] at hu; cases hu)]
    split
    · show (u : Int) ≤ (T.ins.length : Int) - 1
      omega
    · have := le_last _ (uses_sorted T k T.ins.length) u hu
      show (u : Int) ≤ (((T.usesTo k T.ins.length).getD ((T.usesTo k T.ins.length).length - 1) 0 : Nat) : Int)
      omega
end Go.Proofs.YtnbpgipbfejllaaDoor
