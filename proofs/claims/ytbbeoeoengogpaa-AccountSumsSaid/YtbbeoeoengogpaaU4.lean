/- facsimileref04.Made: right cells that numbers determine. -/
import Derived.Test.YtbbeoeoengogpaaU2
namespace Go.Proofs.Ytbbeoeoengogpaa
open Go.RowKit
set_option linter.unusedVariables false

/-! ### Rows of entries -/
def entc : List Ent → List Value
  | [] => []
  | e :: es => e.cells ++ entc es
theorem ent_cells_length (e : Ent) : e.cells.length = 7 := rfl
theorem entc_length : ∀ es : List Ent, (entc es).length = es.length * 7
  | [] => rfl
  | e :: es => by rw [entc, List.length_append, ent_cells_length, entc_length es, List.length_cons]; omega
theorem entc_append : ∀ (es fs : List Ent), entc (es ++ fs) = entc es ++ entc fs
  | [], _ => rfl
  | e :: es, fs => by rw [List.cons_append, entc, entc, entc_append es fs, List.append_assoc]
theorem entc_one (e : Ent) : entc [e] = e.cells := by rw [entc, entc, List.append_nil]
theorem entc_at : ∀ (es : List Ent) (j i : Nat), j < es.length → i < 7 → (entc es)[j * 7 + i]? = some ((es.getD j Ent.dflt).cells.getD i undef)
  | [], _, _, h, _ => by simp at h
  | e :: es, 0, i, _, hi => by
    rw [entc, Nat.zero_mul, Nat.zero_add, List.getElem?_append_left (by rw [ent_cells_length]; exact hi)]
    rw [List.getD_cons_zero, List.getD_eq_getElem?_getD, List.getElem?_eq_getElem (by rw [ent_cells_length]; exact hi)]
    rfl
  | e :: es, j + 1, i, hj, hi => by
    rw [entc, List.getElem?_append_right (by rw [ent_cells_length]; omega), ent_cells_length, show (j + 1) * 7 + i - 7 = j * 7 + i by omega, entc_at es j i (by simpa using hj) hi]
    rfl
theorem entc_one_cell (es : List Ent) : ∀ u ∈ entc es, u.oneCell' = true := by
  induction es with
  | nil => intro u h; cases h
  | cons e es ih =>
    intro u hu
    rw [entc, List.mem_append] at hu
    rcases hu with hu | hu
    · simp only [Ent.cells, List.mem_cons, List.not_mem_nil, or_false] at hu
      rcases hu with rfl | rfl | rfl | rfl | rfl | rfl | rfl <;> rfl
    · exact ih u hu
theorem entc_inv {es : List Ent} {n : Nat} (h : (entc es).length = n * 7) : es.length = n := by rw [entc_length] at h; omega
/-- A cell of an owned row of whatever size. -/
theorem own_at {w : World} {base size n c : Nat} {e : TypeId} {A : Option Addr} {xs : List Value} (h : w.ownsRow base e size (.slice A n c) n xs) (hn : 0 < n) :
    ∃ g cur, A = some ⟨g, 0, none⟩ ∧ base ≤ g ∧ w.heap[g]? = some (.cells cur e (0, 0)) ∧ ∀ j, j < n * size → w.cell? ⟨g, j, none⟩ = xs[j]? := by
  rcases h.2 with ⟨_, h2⟩ | ⟨g, cap, cur, h1, h2, h3, h4, h5, h6, h7⟩
  · omega
  · injection h1 with h1 _ _
    subst h1
    refine ⟨g, cur, rfl, h2, h3, fun j hj => ?_⟩
    rw [blk_cell h3, ← h7, List.getElem?_take_of_lt hj]
    simp
theorem own_ents {w : World} {base n c : Nat} {A : Option Addr} {es : List Ent} (h : w.ownsRow base 56 7 (.slice A n c) n (entc es)) (hn : n ≤ 1000000000000) (hI : ∀ e ∈ es, e.IL ≤ 1000000000000000) : EntsAt w A n es := by
  refine ⟨entc_inv h.1, hn, hI, fun h0 => ?_⟩
  obtain ⟨g, cur, rfl, hb, hg, hc⟩ := own_at h h0
  refine ⟨g, 0, rfl, blk_lt hg, fun j hj i hi => ?_⟩
  rw [Nat.zero_add, hc _ (by omega), entc_at es j i (by rw [entc_inv h.1]; exact hj) hi]

/-! ### What holds of each entry that is made -/
structure EntOK (n0 : Nat) (W : World) (e : Ent) : Prop where
  id : 0 ≤ e.id ∧ e.id ≤ 1000000
  il : e.IL ≤ 3
  items : ItemsW n0 W e.IA e.IL
theorem ItemsW.keep {n0 n : Nat} {W W' : World} {A : Option Addr} {F : Nat → Prop} (h : ItemsW n0 W A n) (hk : Keep F W W') (hF : ∀ b cs, W.heap[b]? = some (.cells cs 75 (0, 0)) → ¬ F b) : ItemsW n0 W' A n := by
  rcases h with h | ⟨b, cs, h1, h2, h3, h4⟩
  · exact .inl h
  · exact .inr ⟨b, cs, h1, (hk.block b (blk_lt h2) (hF b cs h2)).trans h2, h3, h4⟩
theorem EntOK.keep {n0 : Nat} {W W' : World} {e : Ent} {F : Nat → Prop} (h : EntOK n0 W e) (hk : Keep F W W') (hF : ∀ b cs, W.heap[b]? = some (.cells cs 75 (0, 0)) → ¬ F b) : EntOK n0 W' e := ⟨h.id, h.il, h.items.keep hk hF⟩
theorem nu_far {n0 p : Nat} {W : World} (h : NU n0 W p) : ∀ b cs, W.heap[b]? = some (.cells cs 75 (0, 0)) → ¬ b = p := by
  rintro b cs hb rfl
  obtain ⟨AL, nl, cl, xs, k, h1, _⟩ := h
  rw [hb] at h1
  injection h1 with h1
  injection h1 with _ h2
  exact absurd h2 (by decide)
theorem own_far {W : World} {base size n : Nat} {t e : TypeId} {v : Value} {xs : List Value} (h : W.ownsRow base e size v n xs) (hte : t ≠ e) : ∀ b cs, W.heap[b]? = some (.cells cs t (0, 0)) → ¬ v.ownBlock = some b :=
  fun b cs hb e => blk_own_ne hb h e hte rfl
/-- The entries made so far. -/
structure MV (n0 : Nat) (w : World) (p : Nat) (v : Value) (k : Nat) (es : List Ent) (W : World) : Prop where
  nu : NU n0 W p
  own : W.ownsRow n0 56 7 v k (entc es)
  ok : ∀ e ∈ es, EntOK n0 W e
  since : Since n0 w W
theorem MV.next {n0 p k : Nat} {w W W' : World} {v : Value} {es : List Ent} (h : MV n0 w p v k es W) (hn : NU n0 W' p) (hk : Keep (fun i => i = p) W W') : MV n0 w p v k es W' := by
  obtain ⟨AL, nl, cl, xs, k', hb, _⟩ := h.nu
  exact ⟨hn, hk.own h.own (fun b e => blk_own_ne hb h.own e (by decide)), fun e he => (h.ok e he).keep hk (nu_far h.nu), Keep.trans h.since (Keep.mono hk (fun i e => by subst e; exact h.nu.base))⟩
theorem MV.quiet {n0 p k : Nat} {w W W' : World} {v : Value} {es : List Ent} (h : MV n0 w p v k es W) (hk : Keep (fun _ => False) W W') : MV n0 w p v k es W' :=
  h.next (h.nu.keep hk id (fun _ => False.elim)) (Keep.mono hk (fun _ => False.elim))
theorem MV.grow {n0 p k g cap c : Nat} {A : Option Addr} {w W W' : World} {es : List Ent} {e : Ent} (h : MV n0 w p (.slice A k c) k es W) (he : EntOK n0 W e) (hk : Keep (fun i => (Value.slice A k c).ownBlock = some i) W W')
    (ho : W'.ownsRow n0 56 7 (.slice (some ⟨g, 0, none⟩) (k + 1) cap) (k + 1) (entc es ++ e.cells)) : MV n0 w p (.slice (some ⟨g, 0, none⟩) (k + 1) cap) (k + 1) (es ++ [e]) W' := by
  obtain ⟨AL, nl, cl, xs, k', hb, _⟩ := h.nu
  have hlow : ∀ i, (Value.slice A k c).ownBlock = some i → n0 ≤ i := fun i e => own_low h.own e
  have hfar := own_far h.own (t := 75) (by decide)
  refine ⟨h.nu.keep hk (fun e => blk_own_ne hb h.own e (by decide) rfl) hlow, by rw [entc_append, entc_one]; exact ho, fun e' he' => ?_, Keep.trans h.since (Keep.mono hk hlow)⟩
  rcases List.mem_append.1 he' with h1 | h1
  · exact (h.ok e' h1).keep hk hfar
  · rw [List.mem_singleton.1 h1]; exact he.keep hk hfar
theorem ItemCells.put {cs : List Value} {n r : Nat} {z : Int} (h : ItemCells cs n) (hz : 0 ≤ z) : ItemCells (cs.set (r * 3 + 1) (.int .i64 z)) n := by
  intro j hj
  obtain ⟨a, b, s, h1, h2, h3, h4⟩ := h j hj
  by_cases hr : r = j
  · subst hr
    have hl := (List.getElem?_eq_some_iff.1 h2).1
    refine ⟨a, z, s, ?_, ?_, ?_, fun _ => hz⟩
    · rw [List.getElem?_set_ne (by omega)]; exact h1
    · rw [List.getElem?_set_self hl]
    · rw [List.getElem?_set_ne (by omega)]; exact h3
  · refine ⟨a, b, s, ?_, ?_, ?_, h4⟩
    · rw [List.getElem?_set_ne (by omega)]; exact h1
    · rw [List.getElem?_set_ne (by omega)]; exact h2
    · rw [List.getElem?_set_ne (by omega)]; exact h3
theorem MV.fix {n0 p k b r : Nat} {w W : World} {v : Value} {es : List Ent} {cs : Array Value} {z : Int} (h : MV n0 w p v k es W) (hb : W.heap[b]? = some (.cells cs 75 (0, 0))) (hn : n0 ≤ b) (hz : 0 ≤ z) :
    MV n0 w p v k es (W.setCell ⟨b, r * 3 + 1, none⟩ (.int .i64 z)) := by
  have hk : Keep (fun i => i = b) W (W.setCell ⟨b, r * 3 + 1, none⟩ (.int .i64 z)) := keep_set (Keep.refl _ W) _ _
  refine ⟨h.nu.keep hk (fun e => nu_far h.nu b cs hb e.symm) (fun i e => by subst e; exact hn), hk.own h.own (fun b' e e2 => own_far h.own (by decide) b cs hb (e2 ▸ e)), fun e he => ?_, Keep.trans h.since (Keep.mono hk (fun i e => by subst e; exact hn))⟩
  obtain ⟨h1, h2, h3⟩ := h.ok e he
  refine ⟨h1, h2, ?_⟩
  rcases h3 with h3 | ⟨b', cs', e1, e2, e3, e4⟩
  · exact .inl h3
  · right
    by_cases hbb : b' = b
    · subst hbb
      rw [hb] at e2
      injection e2 with e2
      injection e2 with e2
      subst e2
      exact ⟨b', _, e1, blk_set hb _ _, e3, by simpa using e4.put hz⟩
    · exact ⟨b', cs', e1, (hk.block b' (blk_lt e2) hbb).trans e2, e3, e4⟩
/-- What the loop over the items reads. -/
theorem MV.at_ {n0 p k q c : Nat} {w W : World} {A : Option Addr} {es : List Ent} (h : MV n0 w p (.slice A k c) k es W) (hq : q < k) :
    ∃ g, A = some ⟨g, 0, none⟩ ∧ (∀ j i, j < k → i < 7 → W.cell? ⟨g, j * 7 + i, none⟩ = some ((es.getD j Ent.dflt).cells.getD i undef)) ∧ EntOK n0 W (es.getD q Ent.dflt) ∧ (∀ j, j < k → 0 ≤ (es.getD j Ent.dflt).id) := by
  obtain ⟨g, cur, rfl, hb, hg, hc⟩ := own_at h.own (by omega)
  have hl := entc_inv h.own.1
  exact ⟨g, rfl, fun j i hj hi => by rw [hc _ (by omega), entc_at es j i (by omega) hi], h.ok _ (getD_mem (by omega)), fun j hj => (h.ok _ (getD_mem (by omega))).id.1⟩
theorem ItemsW.at_ {n0 n r : Nat} {W : World} {A : Option Addr} (h : ItemsW n0 W A n) (hr : r < n) :
    ∃ b cs a z s, A = some ⟨b, 0, none⟩ ∧ W.heap[b]? = some (.cells cs 75 (0, 0)) ∧ n0 ≤ b ∧ W.cell? ⟨b, r * 3, none⟩ = some (.int .i64 a) ∧ W.cell? ⟨b, r * 3 + 1, none⟩ = some (.int .i64 z) ∧ W.cell? ⟨b, r * 3 + 2, none⟩ = some (.string s) ∧ (a = 5 → 0 ≤ z) := by
  rcases h with h | ⟨b, cs, e1, e2, e3, e4⟩
  · omega
  · obtain ⟨a, z, s, h1, h2, h3, h4⟩ := e4 r hr
    exact ⟨b, cs, a, z, s, e1, e2, e3, by rw [blk_cell e2]; simpa using h1, by rw [blk_cell e2]; simpa using h2, by rw [blk_cell e2]; simpa using h3, h4⟩
end Go.Proofs.Ytbbeoeoengogpaa
