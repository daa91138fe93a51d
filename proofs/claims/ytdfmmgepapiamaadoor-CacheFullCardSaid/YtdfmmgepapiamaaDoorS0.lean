/- What a cache's site does, as plain functions. -/
import Derived.Test.YtdfmmgepapiamaaDoorKB
namespace Go.Proofs.YtdfmmgepapiamaaDoor

structure CS where
  l : List (Int × Int)
  full : Bool
  hits : Int
  misses : Int
def CS.new : CS := ⟨[], false, 0, 0⟩
def prAt (l : List (Int × Int)) (k : Nat) : Int × Int := l.getD k (0, 0)
/-- The first place of a shape. -/
def First (l : List (Int × Int)) (x : Int) (k : Nat) : Prop := k < l.length ∧ (prAt l k).1 = x ∧ ∀ j, j < k → (prAt l j).1 ≠ x
def Absent (l : List (Int × Int)) (x : Int) : Prop := ∀ j, j < l.length → (prAt l j).1 ≠ x
def idxL (l : List (Int × Int)) (x : Int) : Option Nat := l.findIdx? (fun p => p.1 == x)
theorem idx_cases (l : List (Int × Int)) (x : Int) : (∃ k, idxL l x = some k ∧ First l x k) ∨ (idxL l x = none ∧ Absent l x) := by
  unfold idxL
  cases h : l.findIdx? (fun p => p.1 == x) with
  | none =>
    right
    refine ⟨rfl, fun j hj => ?_⟩
    rw [List.findIdx?_eq_none_iff] at h
    have := h _ (getD_mem (x := (0, 0)) hj)
    simpa [prAt] using this
  | some k =>
    left
    refine ⟨k, rfl, ?_⟩
    rw [List.findIdx?_eq_some_iff_getElem] at h
    obtain ⟨hk, h1, h2⟩ := h
    refine ⟨hk, ?_, fun j hj => ?_⟩
    · simpa [prAt, List.getD_eq_getElem?_getD, List.getElem?_eq_getElem hk] using h1
    · have := h2 j hj
      simpa [prAt, List.getD_eq_getElem?_getD, List.getElem?_eq_getElem (show j < l.length by omega)] using this
theorem First.idx {l : List (Int × Int)} {x : Int} {k : Nat} (h : First l x k) : idxL l x = some k := by
  rcases idx_cases l x with ⟨k', e, h'⟩ | ⟨e, h'⟩
  · rw [e]
    have : k' = k := by
      rcases Nat.lt_trichotomy k' k with h1 | h1 | h1
      · exact absurd h'.2.1 (h.2.2 k' h1)
      · exact h1
      · exact absurd h.2.1 (h'.2.2 k h1)
    rw [this]
  · exact absurd h.2.1 (h' k h.1)
theorem Absent.idx {l : List (Int × Int)} {x : Int} (h : Absent l x) : idxL l x = none := by
  rcases idx_cases l x with ⟨k', e, h'⟩ | ⟨e, h'⟩
  · exact absurd h'.2.1 (h k' h'.1)
  · exact e

def CS.find (s : CS) (x : Int) : (Int × Bool) × CS := match idxL s.l x with
  | some k => (((prAt s.l k).2, true), { s with hits := s.hits + 1 })
  | none => ((0, false), { s with misses := s.misses + 1 })
def CS.learn (s : CS) (x y : Int) : Int × CS :=
  if x < 0 ∨ y < 0 then (1, s) else if s.full = true then (2, s) else match idxL s.l x with
    | some k => (0, { s with l := s.l.set k (x, y) })
    | none => if s.l.length = 4 then (2, { s with l := [], full := true }) else (0, { s with l := s.l ++ [(x, y)] })
def CS.forget (s : CS) (x : Int) : Bool × CS := match idxL s.l x with
  | some k => (true, { s with l := s.l.eraseIdx k })
  | none => (false, s)
def CS.state (s : CS) : Int := if s.full = true then 3 else if 1 < s.l.length then 2 else (s.l.length : Int)
def CS.shapes (s : CS) : List Int := s.l.map (·.1)

/-- What holds of every site. -/
structure CS.Ok (s : CS) : Prop where
  len : s.l.length ≤ 4
  nums : ∀ p ∈ s.l, 0 ≤ p.1 ∧ p.1 ≤ 9223372036854775807 ∧ 0 ≤ p.2 ∧ p.2 ≤ 9223372036854775807
  nodup : (s.l.map (·.1)).Nodup
  full : s.full = true → s.l = []
  hits : 0 ≤ s.hits ∧ s.hits ≤ 1000000
  misses : 0 ≤ s.misses ∧ s.misses ≤ 1000000
theorem ok_new : CS.new.Ok := ⟨by decide, by simp [CS.new], by simp [CS.new], by simp [CS.new], by simp [CS.new], by simp [CS.new]⟩
/-- Fewer calls of Find than so many. -/
def CS.few (s : CS) (k : Int) : Prop := s.hits ≤ k ∧ s.misses ≤ k
theorem find_few {s : CS} {k : Int} (h : s.few k) (x : Int) : (s.find x).2.few (k + 1) := by
  obtain ⟨h1, h2⟩ := h
  unfold CS.find
  split <;> exact ⟨by simp only; omega, by simp only; omega⟩
theorem learn_few {s : CS} {k : Int} (h : s.few k) (x y : Int) : (s.learn x y).2.few k := by
  unfold CS.learn
  repeat' split
  all_goals exact h
theorem forget_few {s : CS} {k : Int} (h : s.few k) (x : Int) : (s.forget x).2.few k := by
  unfold CS.forget
  split <;> exact h
theorem CS.few.mono {s : CS} {k m : Int} (h : s.few k) (hm : k ≤ m) : s.few m := ⟨by have := h.1; omega, by have := h.2; omega⟩
theorem find_l (s : CS) (x : Int) : (s.find x).2.l = s.l ∧ (s.find x).2.full = s.full := by
  unfold CS.find; split <;> exact ⟨rfl, rfl⟩
theorem find_ok {s : CS} (h : s.Ok) (x : Int) (hf : s.few 999999) : (s.find x).2.Ok := by
  have h1 := h.hits
  have h2 := h.misses
  obtain ⟨f1, f2⟩ := hf
  unfold CS.find
  split
  · exact ⟨h.len, h.nums, h.nodup, h.full, ⟨by simp only; omega, by simp only; omega⟩, h.misses⟩
  · exact ⟨h.len, h.nums, h.nodup, h.full, h.hits, ⟨by simp only; omega, by simp only; omega⟩⟩
theorem pr_getElem {l : List (Int × Int)} {k : Nat} (hk : k < l.length) : l[k] = prAt l k := by simp [prAt, List.getD_eq_getElem?_getD, List.getElem?_eq_getElem hk]
theorem set_shapes {l : List (Int × Int)} {x y : Int} {k : Nat} (h : First l x k) : (l.set k (x, y)).map (·.1) = l.map (·.1) := by
  rw [List.map_set]
  apply List.ext_getElem (by simp)
  intro i h1 h2
  simp only [List.getElem_set, List.getElem_map]
  split
  · rename_i e
    subst e
    rw [pr_getElem h.1, h.2.1]
  · rfl
theorem learn_ok {s : CS} (h : s.Ok) (x y : Int) (hx : x ≤ 9223372036854775807) (hy : y ≤ 9223372036854775807) : (s.learn x y).2.Ok := by
  unfold CS.learn
  by_cases h1 : x < 0 ∨ y < 0
  · rw [if_pos h1]; exact h
  · rw [if_neg h1]
    by_cases h2 : s.full = true
    · rw [if_pos h2]; exact h
    · rw [if_neg h2]
      rcases idx_cases s.l x with ⟨k, e, hk⟩ | ⟨e, ha⟩
      · rw [e]
        refine ⟨by simpa using h.len, fun p hp => ?_, by simp only; rw [set_shapes hk]; exact h.nodup, fun hf => absurd hf h2, h.hits, h.misses⟩
        rcases List.mem_or_eq_of_mem_set hp with h3 | rfl
        · exact h.nums p h3
        · exact ⟨by simp only; omega, hx, by simp only; omega, hy⟩
      · rw [e]
        by_cases h4 : s.l.length = 4
        · simp only [h4, if_true]
          exact ⟨by simp, by simp, by simp, by simp, h.hits, h.misses⟩
        · simp only [h4, if_false]
          refine ⟨by simp only [List.length_append, List.length_singleton]; have := h.len; omega, fun p hp => ?_, ?_, fun hf => absurd hf h2, h.hits, h.misses⟩
          · simp only [List.mem_append, List.mem_singleton] at hp
            rcases hp with hp | rfl
            · exact h.nums p hp
            · exact ⟨by simp only; omega, hx, by simp only; omega, hy⟩
          · simp only [List.map_append, List.map_cons, List.map_nil]
            rw [List.nodup_append]
            refine ⟨h.nodup, by simp, ?_⟩
            intro a hm b hb hab
            simp only [List.mem_singleton] at hb
            subst hb
            obtain ⟨p, hp, e1⟩ := List.mem_map.1 hm
            obtain ⟨i, hi, rfl⟩ := List.getElem_of_mem hp
            rw [pr_getElem hi] at e1
            exact ha i hi (e1.trans hab)
theorem erase_ok {s : CS} (h : s.Ok) (k : Nat) : (({ s with l := s.l.eraseIdx k } : CS)).Ok := by
  refine ⟨Nat.le_trans (List.length_eraseIdx_le _ _) h.len, fun p hp => h.nums p (List.mem_of_mem_eraseIdx hp), ?_, fun hf => by simp only; rw [h.full hf]; rfl, h.hits, h.misses⟩
  simp only
  exact h.nodup.sublist ((List.eraseIdx_sublist _ _).map _)
theorem forget_ok {s : CS} (h : s.Ok) (x : Int) : (s.forget x).2.Ok := by
  unfold CS.forget
  split
  · exact erase_ok h _
  · exact h
/-- What is forgotten is forgotten wherever it stands: there is one place. -/
theorem erase_filter {l : List (Int × Int)} {x : Int} (hn : (l.map (·.1)).Nodup) {k : Nat} (h : First l x k) : l.filter (fun p => p.1 != x) = l.eraseIdx k := by
  induction l generalizing k with
  | nil => exact absurd h.1 (by simp)
  | cons p l ih =>
    simp only [List.map_cons, List.nodup_cons] at hn
    cases k with
    | zero =>
      have e : p.1 = x := h.2.1
      subst e
      rw [List.eraseIdx_cons_zero, List.filter_cons]
      simp only [bne_self_eq_false, Bool.false_eq_true, if_false]
      rw [List.filter_eq_self]
      intro q hq
      have : q.1 ≠ p.1 := fun e => hn.1 (e ▸ List.mem_map.2 ⟨q, hq, rfl⟩)
      simpa using this
    | succ k =>
      have e : p.1 ≠ x := h.2.2 0 (by omega)
      have h' : First l x k := ⟨by have := h.1; simp at this; omega, h.2.1, fun j hj => h.2.2 (j + 1) (by omega)⟩
      rw [List.eraseIdx_cons_succ, List.filter_cons, ← ih hn.2 h']
      simp [e]
theorem absent_filter {l : List (Int × Int)} {x : Int} (h : Absent l x) : l.filter (fun p => p.1 != x) = l := by
  rw [List.filter_eq_self]
  intro p hp
  obtain ⟨i, hi, rfl⟩ := List.getElem_of_mem hp
  have := h i hi
  rw [← pr_getElem hi] at this
  simpa using this
end Go.Proofs.YtdfmmgepapiamaaDoor
