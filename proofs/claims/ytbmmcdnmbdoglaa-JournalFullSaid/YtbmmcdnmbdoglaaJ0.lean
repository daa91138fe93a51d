/- The pure journal: what a disk's bytes say, and what Append does to them. No program in sight. -/
import Derived.Test.YtbmmcdnmbdoglaaP1
namespace Go.Proofs.Ytbmmcdnmbdoglaa

/-- A number as bytes, the most significant first. -/
def numL (n : Nat) : Nat → Bytes
  | 0 => []
  | k + 1 => UInt8.ofNat (n / 256 ^ k) :: numL n k
theorem numL_length (n : Nat) : ∀ k, (numL n k).length = k
  | 0 => rfl
  | k + 1 => by simp [numL, numL_length n k]
/-- The number that the first k bytes denote; those that are missing are zeros. -/
def natL (s : Bytes) : Nat → Nat
  | 0 => 0
  | k + 1 => natL s k * 256 + (s.getD k 0).toNat
theorem natL_lt (s : Bytes) : ∀ k, natL s k < 256 ^ k
  | 0 => by simp [natL]
  | k + 1 => by
    have := natL_lt s k
    have h2 : (s.getD k 0).toNat < 256 := UInt8.toNat_lt _
    simp only [natL, Nat.pow_succ]
    omega
theorem natL_congr {s t : Bytes} : ∀ {k : Nat}, (∀ i, i < k → s.getD i 0 = t.getD i 0) → natL s k = natL t k
  | 0, _ => rfl
  | k + 1, h => by
    simp only [natL]
    rw [natL_congr (fun i hi => h i (by omega)), h k (by omega)]
/-- The number of eight bytes, with its sign. -/
def signed (u : Nat) : Int := if u < 9223372036854775808 then (u : Int) else (u : Int) - 18446744073709551616
theorem numL_getD (n : Nat) : ∀ (k i : Nat), i < k → (numL n k).getD i 0 = UInt8.ofNat (n / 256 ^ (k - 1 - i))
  | 0, _, h => absurd h (by omega)
  | k + 1, 0, _ => rfl
  | k + 1, i + 1, h => by
    have e := numL_getD n k i (by omega)
    simp only [numL, List.getD_cons_succ, e]
    congr 3
    omega
theorem natL_cons (a : UInt8) (s : Bytes) : ∀ k, natL (a :: s) (k + 1) = a.toNat * 256 ^ k + natL s k
  | 0 => by simp [natL]
  | k + 1 => by
    have := natL_cons a s k
    rw [natL, this]
    simp only [natL, List.getD_cons_succ, Nat.pow_succ]
    rw [Nat.add_mul, Nat.mul_assoc]
    omega
theorem natL_numL (n : Nat) : ∀ k, natL (numL n k) k = n % 256 ^ k
  | 0 => by simp [natL, Nat.mod_one]
  | k + 1 => by
    rw [numL, natL_cons, natL_numL n k]
    have e : (UInt8.ofNat (n / 256 ^ k)).toNat = n / 256 ^ k % 256 := by simp
    rw [e, Nat.pow_succ, Nat.mod_mul]
    rw [Nat.mul_comm]
    omega

theorem readL_getD (c : Bytes) (o n i : Nat) (hi : i < n) : (readL c (o : Int) (n : Int)).getD i 0 = c.getD (o + i) 0 := by
  unfold readL
  split
  · rw [List.getD_eq_getElem?_getD, List.getD_eq_getElem?_getD, List.getElem?_eq_none (l := c) (by omega)]
    rfl
  · simp only [List.getD_eq_getElem?_getD, Int.toNat_natCast]
    rw [show (min (n : Int) ((c.length : Int) - (o : Int))).toNat = min n (c.length - o) by omega]
    by_cases h : i < c.length - o
    · rw [List.getElem?_take_of_lt (by omega), List.getElem?_drop]
    · rw [List.getElem?_eq_none (by simp; omega), List.getElem?_eq_none (l := c) (by omega)]
theorem readL_whole (c : Bytes) (o n : Nat) (h : o + n ≤ c.length) : readL c (o : Int) (n : Int) = (c.drop o).take n := by
  unfold readL
  by_cases h0 : n = 0
  · subst h0; rw [if_pos (by omega)]; simp
  · rw [if_neg (by omega), Int.toNat_natCast, show (min (n : Int) ((c.length : Int) - (o : Int))).toNat = n by omega]
theorem readL_len (c : Bytes) (o n : Nat) : (readL c (o : Int) (n : Int)).length ≤ n := by
  unfold readL
  split
  · simp
  · simp; omega
theorem ext_getD {a b : Bytes} (hl : a.length = b.length) (h : ∀ i, i < a.length → a.getD i 0 = b.getD i 0) : a = b := by
  apply List.ext_getElem? 
  intro i
  by_cases hi : i < a.length
  · have := h i hi
    rw [List.getD_eq_getElem?_getD, List.getD_eq_getElem?_getD, List.getElem?_eq_getElem hi, List.getElem?_eq_getElem (by omega)] at this
    rw [List.getElem?_eq_getElem hi, List.getElem?_eq_getElem (by omega)]
    simpa using this
  · rw [List.getElem?_eq_none (by omega), List.getElem?_eq_none (by omega)]
theorem readL_agree {c c' : Bytes} {o n : Nat} (h : o + n ≤ c.length) (h' : o + n ≤ c'.length) (ha : ∀ i, o ≤ i → i < o + n → c'.getD i 0 = c.getD i 0) : readL c' (o : Int) (n : Int) = readL c (o : Int) (n : Int) := by
  refine ext_getD ?_ (fun i hi => ?_)
  · rw [readL_whole _ _ _ h, readL_whole _ _ _ h']; simp; omega
  · have hn : i < n := by have := readL_len c' o n; omega
    rw [readL_getD _ _ _ _ hn, readL_getD _ _ _ _ hn, ha _ (by omega) (by omega)]

/-- The records from 'pos' to 'stop'; none if they have not the right form. -/
def recsF : Nat → Bytes → Nat → Nat → Option (List Bytes)
  | 0, _, pos, stop => if pos < stop then none else some []
  | f + 1, c, pos, stop => if pos < stop then
      if stop < pos + 4 + natL (readL c (pos : Int) 4) 4 then none
      else (recsF f c (pos + 4 + natL (readL c (pos : Int) 4) 4) stop).map (readL c ((pos + 4 : Nat) : Int) ((natL (readL c (pos : Int) 4) 4 : Nat) : Int) :: ·)
    else some []
theorem recsF_stop (f : Nat) (c : Bytes) (pos stop : Nat) (h : ¬ pos < stop) : recsF f c pos stop = some [] := by
  cases f <;> simp [recsF, h]
theorem recsF_more : ∀ (f g : Nat) (c : Bytes) (pos stop : Nat), stop ≤ pos + f → stop ≤ pos + g → recsF f c pos stop = recsF g c pos stop
  | 0, g, c, pos, stop, h, _ => by rw [recsF_stop _ _ _ _ (by omega), recsF_stop _ _ _ _ (by omega)]
  | f + 1, 0, c, pos, stop, _, h => by rw [recsF_stop _ _ _ _ (by omega), recsF_stop _ _ _ _ (by omega)]
  | f + 1, g + 1, c, pos, stop, h1, h2 => by
    unfold recsF
    rw [recsF_more f g c _ stop (by omega) (by omega)]
/-- Bytes that agree from pos to stop have the same records. -/
theorem recsF_agree (c c' : Bytes) (stop : Nat) (h : stop ≤ c.length) (h' : stop ≤ c'.length) : ∀ (f pos : Nat), (∀ i, pos ≤ i → i < stop → c'.getD i 0 = c.getD i 0) → recsF f c' pos stop = recsF f c pos stop
  | 0, pos, ha => rfl
  | f + 1, pos, ha => by
    unfold recsF
    by_cases hp : pos < stop
    · rw [if_pos hp, if_pos hp]
      by_cases h4 : pos + 4 ≤ stop
      · have e : natL (readL c' (pos : Int) 4) 4 = natL (readL c (pos : Int) 4) 4 := natL_congr (fun i hi => by
          have h1 := readL_getD c' pos 4 i hi
          have h2 := readL_getD c pos 4 i hi
          rw [show ((4 : Nat) : Int) = 4 from rfl] at h1 h2
          rw [h1, h2, ha _ (by omega) (by omega)])
        rw [e]
        by_cases hs : stop < pos + 4 + natL (readL c (pos : Int) 4) 4
        · rw [if_pos hs, if_pos hs]
        · rw [if_neg hs, if_neg hs, recsF_agree c c' stop h h' f _ (fun i h1 h2 => ha i (by omega) h2), readL_agree (by omega) (by omega) (fun i h1 h2 => ha i (by omega) (by omega))]
      · rw [if_pos (by omega), if_pos (by omega)]
    · rw [if_neg hp, if_neg hp]
/-- One more record behind the others. -/
theorem recsF_snoc (c c' : Bytes) (stop n : Nat) (r : Bytes) (h : stop ≤ c.length ∨ stop = 64) (h' : stop + 4 + n ≤ c'.length) (hn : natL (readL c' (stop : Int) 4) 4 = n) (hr : readL c' ((stop + 4 : Nat) : Int) (n : Int) = r) :
    ∀ (f pos : Nat) (l : List Bytes), 64 ≤ pos → (∀ i, pos ≤ i → i < stop → c'.getD i 0 = c.getD i 0) → recsF f c pos stop = some l → pos ≤ stop → ∀ g, f < g → recsF g c' pos (stop + 4 + n) = some (l ++ [r])
  | f, pos, l, h64, ha, hl, hps, g, hg => by
    obtain ⟨g, rfl⟩ : ∃ k, g = k + 1 := ⟨g - 1, by omega⟩
    by_cases hp : pos < stop
    · cases f with
      | zero => simp [recsF, hp] at hl
      | succ f =>
        have hc : stop ≤ c.length := by omega
        rw [recsF, if_pos hp] at hl
        by_cases hs : stop < pos + 4 + natL (readL c (pos : Int) 4) 4
        · rw [if_pos hs] at hl; cases hl
        · rw [if_neg hs] at hl
          cases hx : recsF f c (pos + 4 + natL (readL c (pos : Int) 4) 4) stop with
          | none => rw [hx] at hl; cases hl
          | some l' =>
            rw [hx] at hl
            have hl' := Option.some.inj hl
            have e : natL (readL c' (pos : Int) 4) 4 = natL (readL c (pos : Int) 4) 4 := natL_congr (fun i hi => by
              have h1 := readL_getD c' pos 4 i hi
              have h2 := readL_getD c pos 4 i hi
              rw [show ((4 : Nat) : Int) = 4 from rfl] at h1 h2
              rw [h1, h2, ha _ (by omega) (by omega)])
            rw [recsF, if_pos (by omega), e, if_neg (by omega), recsF_snoc c c' stop n r h h' hn hr f _ l' (by omega) (fun i h1 h2 => ha i (by omega) h2) hx (by omega) g (by omega),
              readL_agree (c := c) (c' := c') (by omega) (by omega) (fun i h1 h2 => ha i (by omega) (by omega)), ← hl']
            rfl
    · obtain rfl : pos = stop := by omega
      rw [recsF_stop _ _ _ _ (by omega)] at hl
      obtain rfl := Option.some.inj hl
      rw [recsF, if_pos (by omega), hn, if_neg (by omega), recsF_stop _ _ _ _ (by omega), hr]
      rfl

/-- Where the part that counts ends, and the records: what Open finds. -/
def openL (c : Bytes) : Option (Nat × List Bytes) :=
  if signed (natL (readL c 0 8) 8) < 0 ∨ 16777216 < signed (natL (readL c 0 8) 8) ∨ (0 < signed (natL (readL c 0 8) 8) ∧ (c.length : Int) < 64 + signed (natL (readL c 0 8) 8)) then none
  else (recsF (signed (natL (readL c 0 8) 8)).toNat c 64 (64 + (signed (natL (readL c 0 8) 8)).toNat)).map ((64 + (signed (natL (readL c 0 8) 8)).toNat, ·))
theorem open_mk {c : Bytes} {n : Nat} (hn : natL (readL c 0 8) 8 = n) (h1 : n ≤ 16777216) (h2 : n = 0 ∨ 64 + n ≤ c.length) : openL c = (recsF n c 64 (64 + n)).map ((64 + n, ·)) := by
  have e : signed (natL (readL c 0 8) 8) = (n : Int) := by rw [hn, signed, if_pos (by omega)]
  unfold openL
  rw [e, if_neg (by omega), Int.toNat_natCast]
theorem open_some {c : Bytes} {E : Nat} {l : List Bytes} (h : openL c = some (E, l)) : ∃ n, E = 64 + n ∧ natL (readL c 0 8) 8 = n ∧ n ≤ 16777216 ∧ (n = 0 ∨ 64 + n ≤ c.length) ∧ recsF n c 64 (64 + n) = some l := by
  unfold openL at h
  have hlt := natL_lt (readL c 0 8) 8
  obtain ⟨u, hu⟩ : ∃ u, natL (readL c 0 8) 8 = u := ⟨_, rfl⟩
  rw [hu] at h hlt
  obtain ⟨v, hv⟩ : ∃ v, signed u = v := ⟨_, rfl⟩
  rw [hv] at h
  split at h
  · cases h
  · have huv : v = (u : Int) := by
      rw [← hv]; unfold signed; split
      · rfl
      · rw [← hv] at *
        unfold signed at *
        rw [if_neg (by assumption)] at *
        omega
    subst huv
    rw [Int.toNat_natCast] at h
    cases hx : recsF u c 64 (64 + u) with
    | none => rw [hx] at h; cases h
    | some l' =>
      rw [hx] at h
      have := Option.some.inj h
      injection this with e1 e2
      subst e2
      exact ⟨u, e1.symm, hu, by omega, by omega, hx⟩
theorem open_agree {c c' : Bytes} {E : Nat} {l : List Bytes} (h : openL c = some (E, l)) (ha : ∀ i, i < E → c'.getD i 0 = c.getD i 0) (hl : E = 64 ∨ E ≤ c'.length) : openL c' = some (E, l) := by
  obtain ⟨n, rfl, hn, h1, h2, h3⟩ := open_some h
  have e : natL (readL c' 0 8) 8 = n := by
    rw [← hn]
    refine natL_congr (fun i hi => ?_)
    have h1 := readL_getD c' 0 8 i hi
    have h2 := readL_getD c 0 8 i hi
    rw [show ((8 : Nat) : Int) = 8 from rfl, show ((0 : Nat) : Int) = 0 from rfl] at h1 h2
    rw [h1, h2, ha _ (by omega)]
  rw [open_mk e h1 (by omega)]
  by_cases h0 : n = 0
  · subst h0
    rw [recsF_stop _ _ _ _ (by omega)] at h3 ⊢
    obtain rfl := Option.some.inj h3
    rfl
  · rw [recsF_agree c c' (64 + n) (by omega) (by omega) n 64 (fun i _ h => ha i h), h3]
    rfl
theorem open_new : openL [] = some (64, []) := by
  rw [open_mk (n := 0) (by decide) (by omega) (.inl rfl), recsF_stop _ _ _ _ (by omega)]
  rfl

/-! ### Append's two writes -/
theorem open_first {c : Bytes} {E : Nat} {l : List Bytes} (h : openL c = some (E, l)) (x : Bytes) : openL (putL c E x) = some (E, l) := by
  refine open_agree h (fun i hi => ?_) (.inr (by rw [putL_length]; omega))
  rw [putL_getD, if_neg (by omega)]
theorem open_second {c : Bytes} {E : Nat} {l : List Bytes} (h : openL c = some (E, l)) (r : Bytes) (hr : r.length < 4294967296) (hfit : E + 4 + r.length ≤ 64 + 16777216) :
    openL (putL (putL c E (numL r.length 4 ++ r)) 0 (numL (E + 4 + r.length - 64) 8)) = some (E + 4 + r.length, l ++ [r]) := by
  obtain ⟨n, rfl, hn, h1, h2, h3⟩ := open_some h
  obtain ⟨c2, hc2⟩ : ∃ c2, putL (putL c (64 + n) (numL r.length 4 ++ r)) 0 (numL (64 + n + 4 + r.length - 64) 8) = c2 := ⟨_, rfl⟩
  have hx : (numL r.length 4 ++ r).length = 4 + r.length := by rw [List.length_append, numL_length]
  have hlen : c2.length = max c.length (64 + n + (4 + r.length)) := by
    rw [← hc2, putL_length, putL_length, hx, numL_length]; omega
  have hg : ∀ i, 8 ≤ i → c2.getD i 0 = (putL c (64 + n) (numL r.length 4 ++ r)).getD i 0 := fun i hi => by
    rw [← hc2, putL_getD, if_neg (by rw [numL_length]; omega)]
  have hh : natL (readL c2 0 8) 8 = n + 4 + r.length := by
    have e : natL (readL c2 0 8) 8 = natL (numL (n + 4 + r.length) 8) 8 := natL_congr (fun i hi => by
      have h1 := readL_getD c2 0 8 i hi
      rw [show ((8 : Nat) : Int) = 8 from rfl, show ((0 : Nat) : Int) = 0 from rfl] at h1
      rw [h1, ← hc2, putL_getD, if_pos (by rw [numL_length]; omega)]
      rw [show 64 + n + 4 + r.length - 64 = n + 4 + r.length by omega]
      simp)
    rw [e, natL_numL]
    omega
  have hold : ∀ i, 64 ≤ i → i < 64 + n → c2.getD i 0 = c.getD i 0 := fun i h1 h2 => by
    rw [hg i (by omega), putL_getD, if_neg (by omega)]
  have hnew : ∀ i, i < 4 + r.length → c2.getD (64 + n + i) 0 = (numL r.length 4 ++ r).getD i 0 := fun i hi => by
    rw [hg _ (by omega), putL_getD, if_pos (by rw [hx]; omega)]
    congr 1
    omega
  have hnn : natL (readL c2 ((64 + n : Nat) : Int) 4) 4 = r.length := by
    have e : natL (readL c2 ((64 + n : Nat) : Int) 4) 4 = natL (numL r.length 4) 4 := natL_congr (fun i hi => by
      have h1 := readL_getD c2 (64 + n) 4 i hi
      rw [show ((4 : Nat) : Int) = 4 from rfl] at h1
      rw [h1, hnew i (by omega), getD_append, if_pos (by rw [numL_length]; omega)])
    rw [e, natL_numL]
    omega
  have hrr : readL c2 ((64 + n + 4 : Nat) : Int) (r.length : Int) = r := by
    rw [readL_whole _ _ _ (by omega)]
    refine ext_getD (by simp; omega) (fun i hi => ?_)
    have hi' : i < r.length := by simp at hi; omega
    have h1 := readL_getD c2 (64 + n + 4) r.length i hi'
    rw [readL_whole _ _ _ (by omega)] at h1
    rw [h1, show 64 + n + 4 + i = 64 + n + (4 + i) by omega, hnew _ (by omega), getD_append, if_neg (by rw [numL_length]; omega), numL_length]
    congr 1
    omega
  rw [hc2, open_mk hh (by omega) (.inr (by omega))]
  have := recsF_snoc c c2 (64 + n) r.length r (by omega) (by omega) hnn hrr n 64 l (Nat.le_refl _) hold h3 (by omega) (n + 4 + r.length) (by omega)
  rw [show 64 + (n + 4 + r.length) = 64 + n + 4 + r.length by omega, this]
  rfl
theorem crash_getD (ns : List Int) (m : Nat) : ∀ (ps : List (Nat × Bytes)) (k : Nat) (c : Bytes), (∀ p ∈ ps, m ≤ p.1) → (∀ i, i < m → (crashL ns k c ps).getD i 0 = c.getD i 0) ∧ c.length ≤ (crashL ns k c ps).length
  | [], _, c, _ => ⟨fun _ _ => rfl, Nat.le_refl _⟩
  | p :: ps, k, c, hp => by
    show (∀ i, i < m → (crashL ns (k + 1) (if lives ns k then putL c p.1 p.2 else c) ps).getD i 0 = c.getD i 0) ∧ c.length ≤ (crashL ns (k + 1) (if lives ns k then putL c p.1 p.2 else c) ps).length
    have h1 := hp p (by simp)
    split
    · have h2 := crash_getD ns m ps (k + 1) (putL c p.1 p.2) (fun q hq => hp q (by simp [hq]))
      refine ⟨fun i hi => ?_, Nat.le_trans (by rw [putL_length]; omega) h2.2⟩
      rw [h2.1 i hi, putL_getD, if_neg (by omega)]
    · exact crash_getD ns m ps (k + 1) c (fun q hq => hp q (by simp [hq]))
/-- The first write, torn in whatever way. -/
theorem open_torn {c : Bytes} {E : Nat} {l : List Bytes} (h : openL c = some (E, l)) (x : Bytes) (ns : List Int) : openL (crashL ns 0 c (pieces E x)) = some (E, l) := by
  have hg := crash_getD ns E (pieces E x) 0 c (fun p hp => (pieces_in x.length E x (Nat.le_refl _) p hp).1)
  obtain ⟨n, rfl, hn, h1, h2, h3⟩ := open_some h
  exact open_agree h hg.1 (by omega)
theorem pieces_eight (x : Bytes) (h : x.length = 8) : pieces 0 x = [(0, x)] := by
  rw [pieces_cons 0 x (by omega), h]
  simp only [Nat.zero_mod, Nat.sub_zero, Nat.zero_add]
  rw [show min 64 8 = 8 by rfl, List.take_of_length_le (by omega), show List.drop 8 x = [] from List.drop_eq_nil_of_le (by omega), pieces_nil]
end Go.Proofs.Ytbmmcdnmbdoglaa
