/- Plain laws on crashes: each byte is old, or of a later write, or of a gap; what lies before later writes survives. -/
import Derived.Test.YtbmmcdnmbdoglaaP0
namespace Go.Proofs.Ytbmmcdnmbdoglaa

theorem getD_append (x y : Bytes) (i : Nat) : (x ++ y).getD i 0 = if i < x.length then x.getD i 0 else y.getD (i - x.length) 0 := by
  simp only [List.getD_eq_getElem?_getD]
  split
  · rw [List.getElem?_append_left (by assumption)]
  · rw [List.getElem?_append_right (by omega)]
theorem getD_zeros (n i : Nat) : (List.replicate n (0 : UInt8)).getD i 0 = 0 := by
  simp only [List.getD_eq_getElem?_getD, List.getElem?_replicate]
  split <;> rfl
theorem getD_pad (c : Bytes) (n i : Nat) : (c ++ List.replicate n 0).getD i 0 = c.getD i 0 := by
  rw [getD_append]
  split
  · rfl
  · rw [getD_zeros]
    simp only [List.getD_eq_getElem?_getD]
    rw [List.getElem?_eq_none (by omega)]
    rfl
theorem putL_getD (c : Bytes) (o : Nat) (t : Bytes) (i : Nat) : (putL c o t).getD i 0 = if o ≤ i ∧ i < o + t.length then t.getD (i - o) 0 else c.getD i 0 := by
  unfold putL
  have hP : (c ++ List.replicate (o + t.length - c.length) (0 : UInt8)).length = max c.length (o + t.length) := by simp; omega
  obtain ⟨P, hPe⟩ : ∃ P, c ++ List.replicate (o + t.length - c.length) (0 : UInt8) = P := ⟨_, rfl⟩
  have hg : ∀ i, P.getD i 0 = c.getD i 0 := fun i => by rw [← hPe, getD_pad]
  rw [hPe] at hP ⊢
  have h1 : (P.take o).length = o := by simp; omega
  rw [getD_append, List.length_append, h1]
  by_cases hi : i < o + t.length
  · rw [if_pos hi, getD_append, h1]
    by_cases ho : i < o
    · rw [if_pos ho, if_neg (by omega), ← hg]
      simp only [List.getD_eq_getElem?_getD, List.getElem?_take_of_lt ho]
    · rw [if_neg ho, if_pos ⟨by omega, hi⟩]
  · rw [if_neg hi, if_neg (by omega), ← hg]
    simp only [List.getD_eq_getElem?_getD, List.getElem?_drop]
    rw [show o + t.length + (i - (o + t.length)) = i by omega]

theorem pieces_in : ∀ (k off : Nat) (s : Bytes), s.length ≤ k → ∀ p ∈ pieces off s, off ≤ p.1 ∧ p.1 + p.2.length ≤ off + s.length ∧ ∀ x ∈ p.2, x ∈ s := by
  intro k
  induction k with
  | zero => intro off s h p hp; obtain rfl := List.eq_nil_of_length_eq_zero (show s.length = 0 by omega); simp [pieces_nil] at hp
  | succ k ih =>
    intro off s h p hp
    by_cases h0 : s.length = 0
    · obtain rfl := List.eq_nil_of_length_eq_zero h0; simp [pieces_nil] at hp
    · rw [pieces_cons off s h0] at hp
      rcases List.mem_cons.1 hp with rfl | hp
      · refine ⟨Nat.le_refl _, ?_, fun x hx => List.mem_of_mem_take hx⟩
        show off + (s.take _).length ≤ _
        rw [List.length_take]
        omega
      · have := ih (off + min (64 - off % 64) s.length) (s.drop (min (64 - off % 64) s.length)) (by simp; omega) p hp
        rw [List.length_drop] at this
        refine ⟨by omega, by omega, fun x hx => List.mem_of_mem_drop (this.2.2 x hx)⟩

/-- Each byte of c is that of a, or one that a write of n bytes v at off has laid, or a zero behind a. -/
structure Okb (a : Bytes) (off n : Nat) (v : UInt8) (c : Bytes) : Prop where
  lo : a.length ≤ c.length
  hi : c.length ≤ max a.length (off + n)
  at_ : ∀ i, i < c.length → (i < a.length ∧ c.getD i 0 = a.getD i 0) ∨ (off ≤ i ∧ i < off + n ∧ c.getD i 0 = v) ∨ (a.length ≤ i ∧ c.getD i 0 = 0)
theorem Okb.self (a : Bytes) (off n : Nat) (v : UInt8) : Okb a off n v a := ⟨Nat.le_refl _, by omega, fun i hi => .inl ⟨hi, rfl⟩⟩
theorem Okb.put {a : Bytes} {off n : Nat} {v : UInt8} {c : Bytes} (h : Okb a off n v c) (o : Nat) (t : Bytes) (h1 : off ≤ o) (h2 : o + t.length ≤ off + n) (ht : ∀ x ∈ t, x = v) : Okb a off n v (putL c o t) := by
  have hlo := h.lo
  have hhi := h.hi
  refine ⟨by rw [putL_length]; omega, by rw [putL_length]; omega, fun i hi => ?_⟩
  rw [putL_length] at hi
  rw [putL_getD]
  by_cases hin : o ≤ i ∧ i < o + t.length
  · rw [if_pos hin]
    refine .inr (.inl ⟨by omega, by omega, ?_⟩)
    have hlt : i - o < t.length := by omega
    rw [List.getD_eq_getElem?_getD, List.getElem?_eq_getElem hlt]
    exact ht _ (List.getElem_mem _)
  · rw [if_neg hin]
    by_cases hc : i < c.length
    · exact h.at_ i hc
    · refine .inr (.inr ⟨by omega, ?_⟩)
      rw [List.getD_eq_getElem?_getD, List.getElem?_eq_none (by omega)]
      rfl
theorem Okb.crash {a : Bytes} {off n : Nat} {v : UInt8} (ns : List Int) : ∀ (ps : List (Nat × Bytes)) (k : Nat) (c : Bytes), Okb a off n v c → (∀ p ∈ ps, off ≤ p.1 ∧ p.1 + p.2.length ≤ off + n ∧ ∀ x ∈ p.2, x = v) → Okb a off n v (crashL ns k c ps)
  | [], _, _, h, _ => h
  | p :: ps, k, c, h, hp => by
    show Okb a off n v (crashL ns (k + 1) (if lives ns k then putL c p.1 p.2 else c) ps)
    have h1 := hp p (by simp)
    refine Okb.crash ns ps (k + 1) _ ?_ (fun q hq => hp q (by simp [hq]))
    split
    · exact h.put p.1 p.2 h1.1 h1.2.1 h1.2.2
    · exact h
theorem crash_bytes (ns : List Int) (a : Bytes) (off n : Nat) (v : UInt8) : Okb a off n v (crashL ns 0 a (pieces off (List.replicate n v))) := by
  refine Okb.crash ns _ 0 a (Okb.self _ _ _ _) (fun p hp => ?_)
  have := pieces_in n off (List.replicate n v) (by simp) p hp
  rw [List.length_replicate] at this
  exact ⟨this.1, this.2.1, fun x hx => List.eq_of_mem_replicate (this.2.2 x hx)⟩

/-- What lies before all later writes survives a crash. -/
theorem crash_before (ns : List Int) (m : Nat) : ∀ (ps : List (Nat × Bytes)) (k : Nat) (c : Bytes), m ≤ c.length → (∀ p ∈ ps, m ≤ p.1) → (crashL ns k c ps).take m = c.take m ∧ m ≤ (crashL ns k c ps).length
  | [], _, c, h, _ => ⟨rfl, h⟩
  | p :: ps, k, c, h, hp => by
    show (crashL ns (k + 1) (if lives ns k then putL c p.1 p.2 else c) ps).take m = c.take m ∧ m ≤ (crashL ns (k + 1) (if lives ns k then putL c p.1 p.2 else c) ps).length
    have h1 := hp p (by simp)
    split
    · have h2 := crash_before ns m ps (k + 1) (putL c p.1 p.2) (by rw [putL_length]; omega) (fun q hq => hp q (by simp [hq]))
      refine ⟨h2.1.trans ?_, h2.2⟩
      unfold putL
      rw [List.append_assoc, List.take_append_of_le_length (by simp; omega), List.take_take, Nat.min_eq_left h1, List.take_append_of_le_length h]
    · exact crash_before ns m ps (k + 1) c h (fun q hq => hp q (by simp [hq]))
end Go.Proofs.Ytbmmcdnmbdoglaa
