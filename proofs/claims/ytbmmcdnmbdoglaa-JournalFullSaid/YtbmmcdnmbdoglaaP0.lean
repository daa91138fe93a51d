/- What a disk does, as plain functions on lists of bytes. -/
namespace Go.Proofs.Ytbmmcdnmbdoglaa

abbrev Bytes := List UInt8

/-- Bytes written to contents, from an offset on. -/
def putL (c : Bytes) (off : Nat) (s : Bytes) : Bytes :=
  (c ++ List.replicate (off + s.length - c.length) 0).take off ++ s ++ (c ++ List.replicate (off + s.length - c.length) 0).drop (off + s.length)
theorem putL_length (c : Bytes) (off : Nat) (s : Bytes) : (putL c off s).length = max c.length (off + s.length) := by
  simp [putL]
  omega

/-- The parts of a write within sectors. -/
def piecesF : Nat → Nat → Bytes → List (Nat × Bytes)
  | 0, _, _ => []
  | k + 1, off, s => if s.length = 0 then [] else (off, s.take (min (64 - off % 64) s.length)) :: piecesF k (off + min (64 - off % 64) s.length) (s.drop (min (64 - off % 64) s.length))
def pieces (off : Nat) (s : Bytes) : List (Nat × Bytes) := piecesF s.length off s
theorem piecesF_more : ∀ (k off : Nat) (s : Bytes), s.length ≤ k → piecesF k off s = pieces off s := by
  have key : ∀ (k j off : Nat) (s : Bytes), s.length ≤ k → s.length ≤ j → piecesF k off s = piecesF j off s := by
    intro k
    induction k with
    | zero =>
      intro j off s h1 h2
      cases j with
      | zero => rfl
      | succ j => simp [piecesF, show s.length = 0 by omega]
    | succ k ih =>
      intro j off s h1 h2
      cases j with
      | zero => simp [piecesF, show s.length = 0 by omega]
      | succ j =>
        unfold piecesF
        by_cases h0 : s.length = 0
        · simp [h0]
        · rw [if_neg h0, if_neg h0, ih j _ _ (by simp; omega) (by simp; omega)]
  intro k off s h
  exact key k s.length off s h (Nat.le_refl _)
theorem pieces_nil (off : Nat) : pieces off [] = [] := rfl
theorem pieces_cons (off : Nat) (s : Bytes) (h : s.length ≠ 0) :
    pieces off s = (off, s.take (min (64 - off % 64) s.length)) :: pieces (off + min (64 - off % 64) s.length) (s.drop (min (64 - off % 64) s.length)) := by
  obtain ⟨k, hk⟩ : ∃ k, s.length = k + 1 := ⟨s.length - 1, by omega⟩
  have e : pieces off s = piecesF (k + 1) off s := by unfold pieces; rw [hk]
  rw [e]
  show (if s.length = 0 then [] else (off, s.take (min (64 - off % 64) s.length)) :: piecesF k (off + min (64 - off % 64) s.length) (s.drop (min (64 - off % 64) s.length))) = _
  rw [if_neg h, piecesF_more _ _ _ (by simp; omega)]
theorem pieces_length : ∀ (k off : Nat) (s : Bytes), s.length ≤ k → (pieces off s).length ≤ s.length := by
  intro k
  induction k with
  | zero => intro off s h; obtain rfl := List.eq_nil_of_length_eq_zero (show s.length = 0 by omega); simp [pieces_nil]
  | succ k ih =>
    intro off s h
    by_cases h0 : s.length = 0
    · obtain rfl := List.eq_nil_of_length_eq_zero h0; simp [pieces_nil]
    · rw [pieces_cons off s h0]
      have := ih (off + min (64 - off % 64) s.length) (s.drop (min (64 - off % 64) s.length)) (by simp; omega)
      simp at this ⊢
      omega

/-- Whether a part survives. -/
def lives (survive : List Int) (k : Nat) : Bool := decide (0 < survive.length) && ((survive.getD (k % survive.length) 0).tmod 2 != 0)
/-- The contents after a crash. -/
def crashL (survive : List Int) : Nat → Bytes → List (Nat × Bytes) → Bytes
  | _, c, [] => c
  | k, c, p :: ps => crashL survive (k + 1) (if lives survive k then putL c p.1 p.2 else c) ps
theorem crashL_snoc (survive : List Int) : ∀ (ps : List (Nat × Bytes)) (k : Nat) (c : Bytes) (p : Nat × Bytes),
    crashL survive k c (ps ++ [p]) = if lives survive (k + ps.length) then putL (crashL survive k c ps) p.1 p.2 else crashL survive k c ps := by
  intro ps
  induction ps with
  | nil => intro k c p; simp [crashL]
  | cons q ps ih =>
    intro k c p
    simp only [List.cons_append, crashL, ih, List.length_cons]
    rw [show k + 1 + ps.length = k + (ps.length + 1) by omega]

/-- A disk's state. -/
structure DS where
  (now synced : Bytes)
  (parts : List (Nat × Bytes))
  (calls : Int)
  (failing : Bool)
  (left : Int)
def DS.new : DS := ⟨[], [], [], 0, false, 0⟩
def DS.off (d : DS) : Bool := d.failing && decide (d.left = 0)
def DS.called (d : DS) : DS := { d with calls := d.calls + 1, left := if d.failing then d.left - 1 else d.left }
/-- May a text be written at an offset? -/
def fitsAt (off : Int) (n : Nat) : Bool := decide (0 ≤ off) && decide (off + n ≤ 16777216)
def DS.write (d : DS) (off : Nat) (s : Bytes) : DS := { d.called with now := putL d.now off s, parts := d.parts ++ pieces off s }
def DS.sync (d : DS) : DS := { d.called with synced := d.now, parts := [] }
def DS.fail (d : DS) (n : Int) : DS := { d with failing := decide (0 ≤ n), left := n }
def DS.crash (d : DS) (survive : List Int) : DS := { DS.new with now := crashL survive 0 d.synced d.parts, synced := crashL survive 0 d.synced d.parts }
def readL (c : Bytes) (off n : Int) : Bytes := if off < 0 ∨ n < 1 ∨ (c.length : Int) ≤ off then [] else (c.drop off.toNat).take (min n (c.length - off)).toNat
end Go.Proofs.Ytbmmcdnmbdoglaa
