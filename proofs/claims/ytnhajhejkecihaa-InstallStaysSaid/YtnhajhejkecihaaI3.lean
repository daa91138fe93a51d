/- Install: slices.IndexFunc and slices.DeleteFunc as Safe calls them. -/
import Derived.Test.YtnhajhejkecihaaI2
import Derived.Laws.OwnMore
import Derived.Lib.SliceRun
namespace Go.Proofs.Ytnhajhejkecihaa
open Go.RowKit Go.Lib
set_option linter.unusedVariables false
set_option linter.unusedSimpArgs false

/-! ### plain -/
def kept (g : Nat → Bool) (j : Nat) : List Nat := (List.range j).filter fun i => !g i
theorem kept_step (g : Nat → Bool) (j : Nat) : kept g (j + 1) = kept g j ++ if g j then [] else [j] := by
  unfold kept
  rw [List.range_succ, List.filter_append]
  cases h : g j <;> simp [h]
theorem kept_le (g : Nat → Bool) (j : Nat) : (kept g j).length ≤ j := by
  have := List.length_filter_le (fun i => !g i) (List.range j)
  simpa [kept] using this
theorem kept_mem {g : Nat → Bool} {j i : Nat} (h : i ∈ kept g j) : i < j ∧ g i = false := by
  simpa [kept] using h
theorem kept_none {g : Nat → Bool} {k : Nat} (h : ∀ j, j < k → g j = false) : kept g k = List.range k := by
  unfold kept
  rw [List.filter_eq_self]
  intro i hi
  rw [h i (List.mem_range.1 hi)]
  rfl
theorem kept_first {g : Nat → Bool} {k : Nat} (h : ∀ j, j < k → g j = false) (hk : g k = true) : kept g (k + 1) = List.range k := by
  rw [kept_step, hk, kept_none h]
  simp
theorem map_range_getD (es : List Nat) (k : Nat) (h : k ≤ es.length) : (List.range k).map (es.getD · 0) = es.take k := by
  apply List.ext_getElem
  · simp; omega
  · intro i h1 h2
    simp at h1 h2
    simp [List.getD_eq_getElem?_getD, List.getElem?_eq_getElem (show i < es.length by omega)]
theorem filter_getD {α : Type} (l : List α) (d : α) (q : α → Bool) : ((List.range l.length).filter fun i => q (l.getD i d)).map (l.getD · d) = l.filter q := by
  have e : l = (List.range l.length).map (l.getD · d) := by
    apply List.ext_getElem
    · simp
    · intro i h1 h2
      simp [List.getD_eq_getElem?_getD, List.getElem?_eq_getElem h1]
  conv => rhs; rw [e]
  rw [List.filter_map]
  rfl
def rowL (es : List Nat) (g : Nat → Bool) (j : Nat) : List Nat := (kept g j).map (es.getD · 0) ++ es.drop (kept g j).length
theorem rowL_length (es : List Nat) (g : Nat → Bool) {j : Nat} (h : j ≤ es.length) : (rowL es g j).length = es.length := by
  have := kept_le g j
  simp [rowL]
  omega
theorem rowL_at (es : List Nat) (g : Nat → Bool) {j : Nat} (h : j < es.length) : (rowL es g j).getD j 0 = es.getD j 0 := by
  have := kept_le g j
  unfold rowL
  rw [List.getD_eq_getElem?_getD, List.getD_eq_getElem?_getD, List.getElem?_append_right (by rw [List.length_map]; omega), List.length_map, List.getElem?_drop]
  congr 2
  omega
theorem rowL_gone (es : List Nat) (g : Nat → Bool) {j : Nat} (hg : g j = true) : rowL es g (j + 1) = rowL es g j := by
  unfold rowL
  rw [kept_step, hg]
  simp
theorem rowL_keep (es : List Nat) (g : Nat → Bool) {j : Nat} (h : j < es.length) (hg : g j = false) : (rowL es g j).set (kept g j).length (es.getD j 0) = rowL es g (j + 1) := by
  have hl := kept_le g j
  unfold rowL
  rw [kept_step, hg, List.set_append_right _ _ (by rw [List.length_map]; omega), List.length_map, Nat.sub_self, List.drop_eq_getElem_cons (by omega : (kept g j).length < es.length), List.set_cons_zero]
  simp
theorem rowL_first (es : List Nat) {g : Nat → Bool} {k : Nat} (hk : k ≤ es.length) (h : ∀ j, j < k → g j = false) (hg : g k = true) : rowL es g (k + 1) = es ∧ (kept g (k + 1)).length = k := by
  have hf := kept_first h hg
  refine ⟨?_, by rw [hf]; simp⟩
  unfold rowL
  rw [hf, map_range_getD es k hk]
  simp
def ptrs (es : List Nat) : List Value := es.map fun b => .pointer (some ⟨b, 0, none⟩)
theorem ptrs_at (es : List Nat) {j : Nat} (h : j < es.length) : (ptrs es)[j]? = some (.pointer (some ⟨es.getD j 0, 0, none⟩)) := by
  simp [ptrs, List.getD_eq_getElem?_getD, List.getElem?_eq_getElem h]
theorem ptrs_set (es : List Nat) (j x : Nat) : (ptrs es).set j (.pointer (some ⟨x, 0, none⟩)) = ptrs (es.set j x) := by simp [ptrs, List.map_set]

/-! ### rows -/
theorem own_take {w : World} {base g m n c : Nat} {e : TypeId} {xs : List Value} (h : w.ownsRow base e 1 (.slice (some ⟨g, 0, none⟩) n c) n xs) (hm : m ≤ n) : w.ownsRow base e 1 (.slice (some ⟨g, 0, none⟩) m c) m (xs.take m) := by
  obtain ⟨hl, h0 | ⟨g', cap, cur, e1, hg, hh, hn, hc, hs, ht⟩⟩ := h
  · cases h0.1
  · injection e1 with e1 _ e3
    injection e1 with e1
    injection e1 with e1
    subst e1 e3
    refine ⟨by rw [List.length_take]; omega, .inr ⟨g, c, cur, rfl, hg, hh, by omega, hc, hs, ?_⟩⟩
    rw [← ht, List.take_take]
    congr 1
    omega
theorem own_cells {base g n c : Nat} {e : TypeId} : ∀ (vs : List Value) (o : Nat) (w : World) (xs : List Value), w.ownsRow base e 1 (.slice (some ⟨g, 0, none⟩) n c) n xs →
    ∃ ys, (w.setCells g o vs).ownsRow base e 1 (.slice (some ⟨g, 0, none⟩) n c) n ys ∧ ys.take o = xs.take o ∧ Keep (fun k => k = g) w (w.setCells g o vs)
  | [], o, w, xs, h => ⟨xs, h, rfl, Keep.refl _ _⟩
  | v :: vs, o, w, xs, h => by
    obtain ⟨ys, h1, h2, h3⟩ := own_cells vs (o + 1) _ _ (h.stored o v).1
    refine ⟨ys, h1, ?_, Keep.trans (keep_set (Keep.refl _ w) o v) h3⟩
    have := congrArg (List.take o) h2
    rw [List.take_take, List.take_take, Nat.min_eq_left (by omega)] at this
    rw [this, List.take_set_of_le (Nat.le_refl _)]
theorem zeroE (w : World) : (zeroValue 63).run Try.prog w = .ok (.pointer none) w := by kernel_rfl
theorem run_cutE_from (w : World) (g n c l : Nat) (hl : l ≤ n) (hc : l < c) :
    (Instr.sliceAt 55 (.slice (some ⟨g, 0, none⟩) n c) (some (.int .i64 (l : Int))) none none).run Try.prog w = .ok (.slice (some ⟨g, l, none⟩) (n - l) (c - l)) w := by
  have h1 : (0 : Int) ≤ l := by omega
  have h2 : (l : Int) ≤ n := by omega
  have h3 : ¬ c = l := by omega
  go_simp
theorem run_cutE_to (w : World) (A : Option Addr) (n c l : Nat) (hl : l ≤ c) :
    (Instr.sliceAt 55 (.slice A n c) none (some (.int .i64 (l : Int))) none).run Try.prog w = .ok (.slice A l c) w := by
  have h1 : (0 : Int) ≤ l := by omega
  have h2 : (l : Int) ≤ c := by omega
  go_simp

/-! ### the closure -/
theorem pred_any {w : World} {eb o : Nat} {e : ME} {x : MX} (h : w.heap[eb]? = some (.cells (ecells e x o).toArray 66 (0, 0))) (hf : FB Try.prog 3 4 w o (owedS e.owed) (e.owed.count true)) :
    Calls Try.prog 26 #[.pointer (some ⟨eb, 0, none⟩)] w fun ee w' => ee = .returned (.bool e.gone) ∧ w = w' := by
  have e11 : w.cell? ⟨eb, 11, none⟩ = some (.bool e.dropped) := (blk_cell h 11).trans rfl
  have e12 : w.cell? ⟨eb, 12, none⟩ = some (.map (some o)) := (blk_cell h 12).trans rfl
  have hln := hf.len (t := 64) Try.underlying64 3
  have hfr := e.free_dec
  obtain ⟨C, hC⟩ : ∃ C, e.owed.count true = C := ⟨_, rfl⟩
  rw [hC] at hln hfr
  have hg : e.gone = (e.dropped && decide (C = 0)) := by unfold ME.gone; rw [hfr]
  rw [hg]
  obtain ⟨d, hd⟩ : ∃ d, e.dropped = d := ⟨_, rfl⟩
  rw [hd] at e11 ⊢
  clear h hf hC hfr hg hd
  go_enter Try.func26, Try.ntmps26
  cases d with
  | false =>
    go_wp2_with fail
    go_ret
    exact ⟨rfl, rfl⟩
  | true =>
    go_wp2_with fail
    go_ret
    refine ⟨?_, rfl⟩
    by_cases h0 : C = 0
    · subst h0; rfl
    · simp [h0]
end Go.Proofs.Ytnhajhejkecihaa
