/- RegsFewest, plain: the state while locations are given is kept. -/
import Derived.Test.YtnbpgipbfejllaaDoorMG62
namespace Go.Proofs.YtnbpgipbfejllaaDoor
open Go.RowKit Go.Lib
set_option linter.unusedVariables false
set_option linter.unusedSimpArgs false

theorem confl_comm (a b : Int × Int) : confl a b = confl b a := by
  unfold confl
  rw [Int.max_comm, Int.min_comm]
  cases (a == (-1, -1)) <;> cases (b == (-1, -1)) <;> rfl
theorem confl_true {a b : Int × Int} (h : confl a b = true) : max a.1 b.1 < min a.2 b.2 := by
  unfold confl at h
  simp only [Bool.and_eq_true, decide_eq_true_eq] at h
  exact h.2.2
section
variable {S : List (Int × Int)} {on : Nat → Bool} {n : Int} {N : Nat} {b : Bool} {k : Nat} {s : List Int × Int}
theorem turn_next {j : Nat} (h : hadTurn on b (k + 1) j = true) : hadTurn on b k j = true ∨ j = k ∧ on k = b := by
  unfold hadTurn at h ⊢
  by_cases e : j = k
  · subst e
    cases b <;> cases ho : on j <;> rw [ho] at h <;> simp at h ⊢
  · cases b <;> cases ho : on j <;> rw [ho] at h <;> simp at h ⊢ <;> omega
theorem turn_self (h : on k = b) : hadTurn on b k k = false := by
  unfold hadTurn
  cases b <;> simp [h]
theorem FInv.skip (h : FInv S on n N b k s) (hc : S.getD k (0, 0) = (-1, -1) ∨ on k ≠ b) : FInv S on n N b (k + 1) s :=
  ⟨h.ai.skip, h.some, h.apart, h.near, fun j hj ht hn => by
    rcases turn_next ht with h1 | ⟨rfl, h2⟩
    · exact h.all j hj h1 hn
    · rcases hc with h3 | h3
      · exact absurd h3 hn
      · exact absurd h2 h3, h.stack⟩
theorem FInv.step (h : FInv S on n N b k s) (hS : SpanOK S on N) (hN : N ≤ 60) (hk : k < N) : FInv S on n N b (k + 1) (stepP S on n b s k) := by
  by_cases hc : S.getD k (0, 0) = (-1, -1) ∨ on k ≠ b
  · rw [show stepP S on n b s k = s from if_pos hc]
    exact h.skip hc
  have hai := h.ai.step hN hk S n
  rw [show stepP S on n b s k = (s.1.set k (lowFree (usedOf S s.1 k s.1.length) : Nat), max s.2 ((lowFree (usedOf S s.1 k s.1.length) : Nat) + 1 - n)) from if_neg hc] at hai ⊢
  obtain ⟨hf1, hf2, _⟩ := h.ai.free hN S k s.1.length
  have hbits := usedOf_bits S s.1 k s.1.length
  have hhas := usedOf_has S s.1 k s.1.length
  obtain ⟨v, hv⟩ : ∃ v, lowFree (usedOf S s.1 k s.1.length) = v := ⟨_, rfl⟩
  rw [hv] at hai hf1 hf2 ⊢
  have hlen := h.ai.len
  have hnn : ¬ S.getD k (0, 0) = (-1, -1) := fun e => hc (.inl e)
  have hon : on k = b := Classical.byContradiction fun e => hc (.inr e)
  have hcur : s.1.getD k (-1) = -1 := h.ai.not k hk (turn_self hon)
  have hset : ∀ j, (s.1.set k (v : Int)).getD j (-1) = if j = k then (v : Int) else s.1.getD j (-1) := fun j => by
    rw [getD_set]
    by_cases e : j = k
    · rw [if_pos ⟨e.symm, by omega⟩, if_pos e]
    · rw [if_neg (fun e2 => e e2.1.symm), if_neg e]
  have hst := hS.start k hk hnn
  have hfin := hS.fin k hk hnn
  refine ⟨hai, fun j hj h0 => ?_, fun i j hi hj hij h0 he => ?_, fun j hj h0 => ?_, fun j hj ht hn => ?_, ?_⟩
  · dsimp only at h0
    rw [hset] at h0
    by_cases e : j = k
    · subst e; exact hnn
    · rw [if_neg e] at h0
      exact h.some j hj h0
  · dsimp only at h0 he
    rw [hset] at h0 he
    rw [hset] at he
    by_cases e1 : i = k
    · subst e1
      have e2 : ¬ j = i := fun e => hij e.symm
      rw [if_pos rfl, if_neg e2] at he
      rw [confl_comm]
      cases hcf : confl (S.getD j (0, 0)) (S.getD i (0, 0)) with
      | false => rfl
      | true =>
        have h9 := hhas j (by omega) (by omega) hcf
        rw [← he, Int.toNat_natCast, hf1] at h9
        cases h9
    · rw [if_neg e1] at h0 he
      by_cases e2 : j = k
      · subst e2
        rw [if_pos rfl] at he
        cases hcf : confl (S.getD i (0, 0)) (S.getD j (0, 0)) with
        | false => rfl
        | true =>
          have h9 := hhas i (by omega) h0 hcf
          rw [he, Int.toNat_natCast, hf1] at h9
          cases h9
      · rw [if_neg e2] at he
        exact h.apart i j hi hj hij h0 he
  · dsimp only at h0 ⊢
    rw [hset] at h0
    rw [hset]
    by_cases e : j = k
    · subst e
      rw [if_pos rfl]
      have hp0 : 0 ≤ (S.getD j (0, 0)).1 ∧ (S.getD j (0, 0)).1 < N := by rw [hst]; split <;> omega
      refine ⟨(S.getD j (0, 0)).1.toNat, by omega, fun i hi => ?_⟩
      by_cases hiv : i < v
      · obtain ⟨m, hm, hml, hmc⟩ := hbits i (hf2 i hiv)
        have hmN : m < N := by omega
        have hmk : ¬ m = j := fun e => by rw [e, hcur] at hml; omega
        have hmn := h.some m hmN (by omega)
        have htm : hadTurn on b j m = true := by
          cases ht : hadTurn on b j m with
          | true => rfl
          | false => have := h.ai.not m hmN ht; omega
        refine ⟨m, hmN, by rw [hset, if_neg hmk]; exact hml, ?_⟩
        have hsm := hS.start m hmN hmn
        have hcm := confl_true hmc
        have hle : (S.getD m (0, 0)).1 ≤ (S.getD j (0, 0)).1 := by
          rw [hsm, hst]
          unfold hadTurn at htm
          cases hom : on m with
          | true => rw [if_pos rfl]; split <;> omega
          | false =>
            rw [hom] at htm
            cases b with
            | true => simp at htm
            | false => simp at htm; rw [hon]; simp; omega
        have h0m : 0 ≤ (S.getD m (0, 0)).1 := by rw [hsm]; split <;> omega
        unfold inS
        simp only [Bool.and_eq_true, decide_eq_true_eq]
        omega
      · have : i = v := by omega
        subst this
        refine ⟨j, hj, by rw [hset, if_pos rfl], ?_⟩
        unfold inS
        simp only [Bool.and_eq_true, decide_eq_true_eq]
        omega
    · rw [if_neg e] at h0 ⊢
      obtain ⟨p, hp, hpp⟩ := h.near j hj h0
      refine ⟨p, hp, fun i hi => ?_⟩
      obtain ⟨m, hm, hml, hmi⟩ := hpp i hi
      exact ⟨m, hm, by rw [hset, if_neg (fun e => by rw [e, hcur] at hml; omega)]; exact hml, hmi⟩
  · dsimp only
    rw [hset]
    by_cases e : j = k
    · rw [if_pos e]; omega
    · rw [if_neg e]
      rcases turn_next ht with h1 | ⟨h1, _⟩
      · exact h.all j hj h1 hn
      · exact absurd h1 e
  · dsimp only
    rw [h.stack, locAll_set s.1 k v (by omega) hcur (by omega)]
    omega
theorem FInv.run (hS : SpanOK S on N) (hN : N ≤ 60) (h : FInv S on n N b 0 s) : ∀ k, k ≤ N → FInv S on n N b k (runP S on n b s k)
  | 0, _ => h
  | k + 1, hk => (FInv.run hS hN h k (by omega)).step hS hN (by omega)
theorem FInv.start (S : List (Int × Int)) (on : Nat → Bool) {n : Int} (N : Nat) (hn : 0 ≤ n) : FInv S on n N true 0 (List.replicate N (-1), 0) := by
  have hm : ∀ j, (List.replicate N (-1 : Int)).getD j (-1) = -1 := fun j => by
    rw [List.getD_eq_getElem?_getD, List.getElem?_replicate]
    split <;> rfl
  refine ⟨AInv.start on N, fun j hj h0 => ?_, fun i j hi hj hij h0 => ?_, fun j hj h0 => ?_, fun j hj ht => ?_, ?_⟩
  · dsimp only at h0; rw [hm] at h0; omega
  · dsimp only at h0; rw [hm] at h0; omega
  · dsimp only at h0; rw [hm] at h0; omega
  · unfold hadTurn at ht; simp at ht
  · dsimp only; rw [locAll_rep]; omega
theorem FInv.second (h : FInv S on n N true N s) : FInv S on n N false 0 s :=
  ⟨h.ai.second, h.some, h.apart, h.near, fun j hj ht => h.all j hj (by unfold hadTurn at ht ⊢; simp at ht ⊢; exact ⟨ht, hj⟩), h.stack⟩
end
theorem allocP_inv {S : List (Int × Int)} {on : Nat → Bool} {n : Int} {N : Nat} (hS : SpanOK S on N) (hN : N ≤ 60) (hn : 0 ≤ n) : FInv S on n N false N (allocP S on n N) :=
  FInv.run hS hN (FInv.run hS hN (FInv.start S on N hn) N (Nat.le_refl _)).second N (Nat.le_refl _)
/-- As many locations as spans that hold one place. -/
theorem fewest {S : List (Int × Int)} {on : Nat → Bool} {n : Int} {N : Nat} (hS : SpanOK S on N) (hN : N ≤ 60) (hn : 0 ≤ n) : locAll (allocP S on n N).1 = (mostTo S N N : Nat) ∧ (allocP S on n N).2 = max 0 ((mostTo S N N : Nat) - n) := by
  have h := allocP_inv hS hN hn
  have hlen := h.ai.len
  have key : locAll (allocP S on n N).1 = (mostTo S N N : Nat) := by
    obtain ⟨loc, hloc⟩ : ∃ loc, (allocP S on n N).1 = loc := ⟨_, rfl⟩
    have hap := h.apart
    have hal := h.all
    have hne := h.near
    rw [hloc] at hap hal hne hlen ⊢
    refine Int.le_antisymm ?_ ?_
    · by_cases h0 : locAll loc ≤ 0
      · have := locAll_pos loc; omega
      · obtain ⟨k, hk, e⟩ := locAll_hit loc (by omega)
        obtain ⟨p, hp, hpp⟩ := hne k (by omega) (by omega)
        obtain ⟨v, hv⟩ : ∃ v : Nat, loc.getD k (-1) = (v : Int) := ⟨(loc.getD k (-1)).toNat, by omega⟩
        have h1 := pig1 (fun j => inS (S.getD j (0, 0)) p) (fun j => loc.getD j (-1)) N v (fun i hi => hpp i (by omega))
        have h2 : (List.range N).countP (fun j => inS (S.getD j (0, 0)) p && (decide (0 ≤ loc.getD j (-1)) && decide (loc.getD j (-1) ≤ (v : Int)))) ≤ cntTo S p N := by
          unfold cntTo
          exact List.countP_mono_left (fun x _ hx => by simp only [Bool.and_eq_true] at hx; exact hx.1)
        have h3 := le_most S N hp
        omega
    · have hL := locAll_pos loc
      obtain ⟨L, hLL⟩ : ∃ L : Nat, locAll loc = (L : Int) := ⟨(locAll loc).toNat, by omega⟩
      rw [hLL]
      have : mostTo S N N ≤ L := most_le S N L (fun p hp => by
        have h2 := pig2 (fun j => inS (S.getD j (0, 0)) p) (fun j => loc.getD j (-1)) N (fun i j hi hj hpi hpj he => by
          refine Classical.byContradiction fun hij => ?_
          unfold inS at hpi hpj
          simp only [Bool.and_eq_true, decide_eq_true_eq] at hpi hpj
          have hni : ¬ S.getD i (0, 0) = (-1, -1) := fun e => by rw [e] at hpi; simp at hpi
          have hnj : ¬ S.getD j (0, 0) = (-1, -1) := fun e => by rw [e] at hpj; simp at hpj
          have h9 := hap i j hi hj hij (hal i hi (by unfold hadTurn; simp [hi]) hni) he
          unfold confl at h9
          have e1 : (S.getD i (0, 0) == (-1, -1)) = false := by simpa using hni
          have e2 : (S.getD j (0, 0) == (-1, -1)) = false := by simpa using hnj
          rw [e1, e2] at h9
          simp only [Bool.not_false, Bool.true_and, decide_eq_false_iff_not] at h9
          omega) L
        have h3 : cntTo S p N ≤ (List.range N).countP (fun j => inS (S.getD j (0, 0)) p && (decide (0 ≤ loc.getD j (-1)) && decide (loc.getD j (-1) < (L : Int)))) := by
          unfold cntTo
          refine List.countP_mono_left (fun x hx hp2 => ?_)
          have hxN := List.mem_range.1 hx
          have hnx : ¬ S.getD x (0, 0) = (-1, -1) := fun e => by
            rw [e] at hp2
            unfold inS at hp2
            simp at hp2
          have h7 := hal x hxN (by unfold hadTurn; simp [hxN]) hnx
          have h8 := locAll_lt loc x (by omega)
          simp only [Bool.and_eq_true, decide_eq_true_eq]
          exact ⟨hp2, h7, by omega⟩
        omega) N (Nat.le_refl _)
      omega
  exact ⟨key, by rw [h.stack, key]⟩
end Go.Proofs.YtnbpgipbfejllaaDoor
