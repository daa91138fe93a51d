/- What a site knows, held against a map. -/
import Derived.Test.YtdfmmgepapiamaaDoorS5
import Derived.Maps.OwnSet
import Derived.Maps.OwnOps
namespace Go.Proofs.YtdfmmgepapiamaaDoor
open Go.RowKit
set_option linter.unusedVariables false

theorem idx_shapes (l : List (Int × Int)) (z : Int) : idxL l z = (l.map (·.1)).findIdx? (fun a => a == z) := by
  unfold idxL
  rw [List.findIdx?_map]
  rfl
/-- What Find answers. -/
def ans (l : List (Int × Int)) (z : Int) : Int × Bool := match idxL l z with
  | some k => ((prAt l k).2, true)
  | none => (0, false)
theorem find_ans (s : CS) (z : Int) : (s.find z).1 = ans s.l z := by
  unfold CS.find ans
  cases idxL s.l z <;> rfl
theorem ans_nil (z : Int) : ans [] z = (0, false) := rfl
theorem ans_set {l : List (Int × Int)} {x y : Int} {k : Nat} (h : First l x k) (z : Int) : ans (l.set k (x, y)) z = if z = x then (y, true) else ans l z := by
  have e : idxL (l.set k (x, y)) z = idxL l z := by rw [idx_shapes, idx_shapes, set_shapes h]
  unfold ans
  rw [e]
  by_cases hz : z = x
  · subst hz
    rw [h.idx, if_pos rfl]
    simp [prAt, List.getD_eq_getElem?_getD, h.1]
  · rw [if_neg hz]
    rcases idx_cases l z with ⟨j, e2, hj⟩ | ⟨e2, ha⟩
    · rw [e2]
      have hjk : j ≠ k := fun e => hz (by rw [← hj.2.1, e, h.2.1])
      simp [prAt, List.getD_eq_getElem?_getD, List.getElem?_set_ne (Ne.symm hjk)]
    · rw [e2]
theorem ans_snoc {l : List (Int × Int)} {x y : Int} (h : Absent l x) (z : Int) : ans (l ++ [(x, y)]) z = if z = x then (y, true) else ans l z := by
  unfold ans
  by_cases hz : z = x
  · subst hz
    have hf : First (l ++ [(z, y)]) z l.length := ⟨by simp, by simp [prAt, List.getD_eq_getElem?_getD], fun j hj => by
      have := h j hj
      simpa [prAt, List.getD_eq_getElem?_getD, List.getElem?_append_left hj] using this⟩
    rw [hf.idx, if_pos rfl]
    simp [prAt, List.getD_eq_getElem?_getD]
  · rw [if_neg hz]
    rcases idx_cases l z with ⟨j, e2, hj⟩ | ⟨e2, ha⟩
    · have hf : First (l ++ [(x, y)]) z j := ⟨by have := hj.1; simp; omega, by
        have := hj.2.1
        simpa [prAt, List.getD_eq_getElem?_getD, List.getElem?_append_left hj.1] using this, fun i hi => by
        have := hj.2.2 i hi
        have hl := hj.1
        simpa [prAt, List.getD_eq_getElem?_getD, List.getElem?_append_left (show i < l.length by omega)] using this⟩
      rw [e2, hf.idx]
      simp [prAt, List.getD_eq_getElem?_getD, List.getElem?_append_left hj.1]
    · have hf : Absent (l ++ [(x, y)]) z := fun j hj => by
        rw [List.length_append, List.length_singleton] at hj
        by_cases hjl : j < l.length
        · have := ha j hjl
          simpa [prAt, List.getD_eq_getElem?_getD, List.getElem?_append_left hjl] using this
        · have : j = l.length := by omega
          subst this
          simpa [prAt, List.getD_eq_getElem?_getD] using Ne.symm hz
      rw [e2, hf.idx]
theorem ans_erase {l : List (Int × Int)} {x : Int} {k : Nat} (hn : (l.map (·.1)).Nodup) (h : First l x k) (z : Int) : ans (l.eraseIdx k) z = if z = x then (0, false) else ans l z := by
  rw [← erase_filter hn h]
  clear hn h k
  induction l with
  | nil => simp [ans_nil]
  | cons p l ih =>
    have hc : ∀ (q : Int × Int) (m : List (Int × Int)), ans (q :: m) z = if q.1 = z then (q.2, true) else ans m z := by
      intro q m
      unfold ans idxL
      rw [List.findIdx?_cons]
      by_cases hq : q.1 = z
      · simp [hq, prAt]
      · have hq' : (q.1 == z) = false := by simpa using hq
        rw [hq']
        simp only [Bool.false_eq_true, if_false, hq]
        cases List.findIdx? (fun p => p.1 == z) m with
        | none => rfl
        | some j => simp [prAt]
    rw [List.filter_cons]
    by_cases hp : p.1 = x
    · have : (p.1 != x) = false := by simpa using hp
      rw [this]
      simp only [Bool.false_eq_true, if_false]
      rw [ih, hc]
      by_cases hz : z = x
      · simp [hz]
      · have : ¬ p.1 = z := fun e => hz (by rw [← e, hp])
        simp [hz, this]
    · have : (p.1 != x) = true := by simpa using hp
      rw [this]
      simp only [if_true]
      rw [hc, hc, ih]
      by_cases hz : z = x
      · subst hz
        simp [hp]
      · simp [hz]

theorem learn_ans {s : CS} (x y z : Int) (h : (s.learn x y).1 = 0) : ans (s.learn x y).2.l z = if z = x then (y, true) else ans s.l z := by
  unfold CS.learn at h ⊢
  by_cases h1 : x < 0 ∨ y < 0
  · rw [if_pos h1] at h; exact absurd h (show ¬ (1 : Int) = 0 by decide)
  · rw [if_neg h1] at h ⊢
    by_cases h2 : s.full = true
    · rw [if_pos h2] at h; exact absurd h (show ¬ (2 : Int) = 0 by decide)
    · rw [if_neg h2] at h ⊢
      rcases idx_cases s.l x with ⟨k, e, hk⟩ | ⟨e, ha⟩
      · rw [e]
        exact ans_set hk z
      · rw [e] at h ⊢
        by_cases h4 : s.l.length = 4
        · simp only [h4, if_true] at h; exact absurd h (show ¬ (2 : Int) = 0 by decide)
        · simp only [h4, if_false]
          exact ans_snoc ha z
theorem learn_len {s : CS} (x y : Int) (h : (s.learn x y).1 = 0) : (s.learn x y).2.l.length = if (ans s.l x).2 = true then s.l.length else s.l.length + 1 := by
  unfold CS.learn at h ⊢
  by_cases h1 : x < 0 ∨ y < 0
  · rw [if_pos h1] at h; exact absurd h (show ¬ (1 : Int) = 0 by decide)
  · rw [if_neg h1] at h ⊢
    by_cases h2 : s.full = true
    · rw [if_pos h2] at h; exact absurd h (show ¬ (2 : Int) = 0 by decide)
    · rw [if_neg h2] at h ⊢
      unfold ans
      rcases idx_cases s.l x with ⟨k, e, hk⟩ | ⟨e, ha⟩
      · rw [e]
        simp
      · rw [e] at h ⊢
        by_cases h4 : s.l.length = 4
        · simp only [h4, if_true] at h; exact absurd h (show ¬ (2 : Int) = 0 by decide)
        · simp only [h4, if_false]
          simp
theorem learn_no {s : CS} (ok : s.Ok) (x y : Int) (h : (s.learn x y).1 ≠ 0) : (s.learn x y).2.l = s.l ∨ (s.learn x y).2.full = true := by
  unfold CS.learn at h ⊢
  by_cases h1 : x < 0 ∨ y < 0
  · rw [if_pos h1]; exact .inl rfl
  · rw [if_neg h1] at h ⊢
    by_cases h2 : s.full = true
    · rw [if_pos h2]; exact .inl rfl
    · rw [if_neg h2] at h ⊢
      rcases idx_cases s.l x with ⟨k, e, hk⟩ | ⟨e, ha⟩
      · rw [e] at h; exact absurd rfl h
      · rw [e] at h ⊢
        by_cases h4 : s.l.length = 4
        · exact .inr (by simp only [h4, if_true])
        · simp only [h4, if_false] at h; exact absurd rfl h
theorem forget_ans {s : CS} (ok : s.Ok) (x z : Int) : ans (s.forget x).2.l z = if z = x then (0, false) else ans s.l z := by
  unfold CS.forget
  rcases idx_cases s.l x with ⟨k, e, hk⟩ | ⟨e, ha⟩
  · rw [e]
    exact ans_erase ok.nodup hk z
  · rw [e]
    by_cases hz : z = x
    · subst hz
      rw [if_pos rfl]
      unfold ans
      rw [e]
    · rw [if_neg hz]
theorem forget_tells (s : CS) (x : Int) : (s.forget x).1 = (ans s.l x).2 := by
  unfold CS.forget ans
  cases idxL s.l x <;> rfl
theorem forget_len (s : CS) (x : Int) : (s.forget x).2.l.length + (if (ans s.l x).2 = true then 1 else 0) = s.l.length := by
  unfold CS.forget ans
  rcases idx_cases s.l x with ⟨k, e, hk⟩ | ⟨e, ha⟩
  · rw [e]
    have := hk.1
    simp only [List.length_eraseIdx_of_lt hk.1, if_true]
    omega
  · rw [e]
    simp
theorem state_full {s : CS} (ok : s.Ok) : (s.state == 3) = s.full := by
  have := ok.len
  unfold CS.state
  cases h : s.full with
  | true => simp
  | false =>
    simp only [Bool.false_eq_true, if_false]
    split <;> simp <;> omega

/-! ### A map beside a site -/
abbrev IKey (x : Int) : Lit := .int .i64 x
def MI (D : DataW Unit) (l : List (Int × Int)) : Prop := Maps.Tidy D ∧ (∀ x, Maps.has D (IKey x) = (ans l x).2) ∧ (∀ x, D.atKey (IKey x) (.lit (.int .i64 0)) = .lit (.int .i64 (ans l x).1)) ∧ Maps.size D = l.length
theorem mi_nil : MI (.map []) [] := ⟨Maps.tidy_empty, fun _ => rfl, fun _ => rfl, rfl⟩
theorem ikey (x : Int) : WideAt.IsKeyLit (IKey x) := by trivial
theorem ikey_ne {x z : Int} (h : z ≠ x) : IKey z ≠ IKey x := fun e => h (by injection e)
theorem mi_learn {D : DataW Unit} {s : CS} (h : MI D s.l) (x y : Int) (h0 : (s.learn x y).1 = 0) : MI (D.put (IKey x) (.lit (.int .i64 y))) (s.learn x y).2.l := by
  obtain ⟨h1, h2, h3, h4⟩ := h
  refine ⟨h1.put (ikey x) _, fun z => ?_, fun z => ?_, ?_⟩
  · rw [learn_ans x y z h0]
    by_cases hz : z = x
    · subst hz
      rw [Maps.has_put_same h1.isMap (ikey z), if_pos rfl]
    · rw [Maps.has_put_other (ikey_ne hz), if_neg hz, h2]
  · rw [learn_ans x y z h0]
    by_cases hz : z = x
    · subst hz
      rw [Maps.atKey_put_same h1.isMap (ikey z), if_pos rfl]
    · rw [Maps.atKey_put_other (ikey_ne hz), if_neg hz, h3]
  · rw [Maps.size_put h1, h2, h4, learn_len x y h0]
theorem mi_forget {D : DataW Unit} {s : CS} (h : MI D s.l) (ok : s.Ok) (x : Int) : MI (D.del (IKey x)) (s.forget x).2.l := by
  obtain ⟨h1, h2, h3, h4⟩ := h
  refine ⟨h1.del _, fun z => ?_, fun z => ?_, ?_⟩
  · rw [forget_ans ok]
    by_cases hz : z = x
    · subst hz
      rw [Maps.has_del_same, if_pos rfl]
    · rw [Maps.has_del_other (ikey_ne hz), if_neg hz, h2]
  · rw [forget_ans ok]
    by_cases hz : z = x
    · subst hz
      rw [Maps.atKey_del_same, if_pos rfl]
    · rw [Maps.atKey_del_other (ikey_ne hz), if_neg hz, h3]
  · have a := Maps.size_del (k := IKey x) h1
    have b := forget_len s x
    rw [h2] at a
    omega
end Go.Proofs.YtdfmmgepapiamaaDoor
