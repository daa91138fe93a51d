/- facsimileref04: a cell that numbers determine. -/
import Derived.Test.YtbbeoeoengogpaaU1
namespace Go.Proofs.Ytbbeoeoengogpaa
open Go.RowKit
set_option linter.unusedVariables false

/-- Items as they lie in a block's cells: three cells each, a kind, a number that is not negative where the kind is that of a ref, a string. -/
def ItemCells (cs : List Value) (n : Nat) : Prop := ∀ j, j < n → ∃ (a b : Int) (s : ByteArray), cs[j * 3]? = some (.int .i64 a) ∧ cs[j * 3 + 1]? = some (.int .i64 b) ∧ cs[j * 3 + 2]? = some (.string s) ∧ (a = 5 → 0 ≤ b)
theorem ItemCells.nil (cs : List Value) : ItemCells cs 0 := fun j h => absurd h (by omega)
theorem ItemCells.snoc {cs : List Value} {n : Nat} (h : ItemCells cs n) (hl : cs.length = n * 3) (a b : Int) (s : ByteArray) (hab : a = 5 → 0 ≤ b) : ItemCells (cs ++ [.int .i64 a, .int .i64 b, .string s]) (n + 1) := by
  intro j hj
  by_cases hjn : j < n
  · obtain ⟨a', b', s', h1, h2, h3, h4⟩ := h j hjn
    refine ⟨a', b', s', ?_, ?_, ?_, h4⟩
    · rw [List.getElem?_append_left (by omega)]; exact h1
    · rw [List.getElem?_append_left (by omega)]; exact h2
    · rw [List.getElem?_append_left (by omega)]; exact h3
  · obtain rfl : j = n := by omega
    refine ⟨a, b, s, ?_, ?_, ?_, hab⟩
    · rw [List.getElem?_append_right (by omega), hl, Nat.sub_self]; rfl
    · rw [List.getElem?_append_right (by omega), hl, show j * 3 + 1 - j * 3 = 1 by omega]; rfl
    · rw [List.getElem?_append_right (by omega), hl, show j * 3 + 2 - j * 3 = 2 by omega]; rfl

structure CB (n0 : Nat) (w : World) (p B C : Nat) (kd cl fn tn : Int) (sn v : Value) (k : Nat) (W : World) : Prop where
  nu : NU n0 W p
  res : W.heap[B]? = some (.cells #[.int .i64 0, .int .i64 0, .int .i64 0, .int .i64 0, .slice none 0 0, .slice none 0 0] 54 (0, 0))
  blk : W.heap[C]? = some (.cells #[.int .i64 kd, .int .i64 cl, .int .i64 fn, .int .i64 tn, sn, v] 54 (0, 0))
  own : ∃ cs, W.ownsRow w.heap.size 75 3 v k cs ∧ ItemCells cs k
  keep : Keep (fun i => i = p) w W
  ne : B ≠ p ∧ C ≠ p ∧ B ≠ C
  new : w.heap.size ≤ B ∧ w.heap.size ≤ C
  low : n0 ≤ w.heap.size
  sl : ∃ NA NL NC, sn = .slice NA NL NC
theorem CB.own_ne {n0 p B C k : Nat} {w W : World} {kd cl fn tn : Int} {sn v : Value} (h : CB n0 w p B C kd cl fn tn sn v k W) : ∀ b, v.ownBlock = some b → b ≠ B ∧ b ≠ C ∧ b ≠ p := by
  obtain ⟨cs, ho, _⟩ := h.own
  obtain ⟨AL, nl, cl', xs, k', hb, _⟩ := h.nu
  exact fun b hb' => ⟨blk_own_ne h.res ho hb' (by decide), blk_own_ne h.blk ho hb' (by decide), blk_own_ne hb ho hb' (by decide)⟩
theorem CB.next {n0 p B C k : Nat} {w W W' : World} {kd cl fn tn : Int} {sn v : Value} (h : CB n0 w p B C kd cl fn tn sn v k W) (hn : NU n0 W' p) (hk : Keep (fun i => i = p) W W') : CB n0 w p B C kd cl fn tn sn v k W' :=
  ⟨hn, (hk.block B (blk_lt h.res) h.ne.1).trans h.res, (hk.block C (blk_lt h.blk) h.ne.2.1).trans h.blk, let ⟨cs, h1, h2⟩ := h.own; ⟨cs, hk.own h1 (fun b e => (h.own_ne b e).2.2), h2⟩, Keep.trans h.keep hk, h.ne, h.new, h.low, h.sl⟩
theorem CB.quiet {n0 p B C k : Nat} {w W W' : World} {kd cl fn tn : Int} {sn v : Value} (h : CB n0 w p B C kd cl fn tn sn v k W) (hk : Keep (fun _ => False) W W') : CB n0 w p B C kd cl fn tn sn v k W' :=
  h.next (h.nu.keep hk id (fun _ => False.elim)) (Keep.mono hk (fun _ => False.elim))
theorem keep_new {w W W' : World} {p C : Nat} (h : Keep (fun i => i = p) w W) (hk : Keep (fun i => i = C) W W') (hC : w.heap.size ≤ C) : Keep (fun i => i = p) w W' :=
  h.then hk (fun i hi => by rw [hi]; exact .inr hC)
theorem CB.turn {n0 p B C k : Nat} {w W W' : World} {kd cl fn tn kd' cl' fn' tn' : Int} {sn v sn' : Value} (h : CB n0 w p B C kd cl fn tn sn v k W) (hk : Keep (fun i => i = C) W W')
    (hb : W'.heap[C]? = some (.cells #[.int .i64 kd', .int .i64 cl', .int .i64 fn', .int .i64 tn', sn', v] 54 (0, 0))) (hs : ∃ NA NL NC, sn' = .slice NA NL NC) : CB n0 w p B C kd' cl' fn' tn' sn' v k W' :=
  ⟨h.nu.keep hk (fun e => h.ne.2.1 e.symm) (fun i e => by subst e; have := h.new.2; have := h.low; omega), (hk.block B (blk_lt h.res) h.ne.2.2).trans h.res, hb,
    let ⟨cs, h1, h2⟩ := h.own; ⟨cs, hk.own h1 (fun b e => (h.own_ne b e).2.1), h2⟩, keep_new h.keep hk h.new.2, h.ne, h.new, h.low, hs⟩
theorem CB.cells {n0 p B C k : Nat} {w W : World} {kd cl fn tn : Int} {sn v : Value} (h : CB n0 w p B C kd cl fn tn sn v k W) :
    W.cell? ⟨C, 0, none⟩ = some (.int .i64 kd) ∧ W.cell? ⟨C, 1, none⟩ = some (.int .i64 cl) ∧ W.cell? ⟨C, 2, none⟩ = some (.int .i64 fn) ∧ W.cell? ⟨C, 3, none⟩ = some (.int .i64 tn) ∧ W.cell? ⟨C, 4, none⟩ = some sn ∧ W.cell? ⟨C, 5, none⟩ = some v ∧ (∀ i, W.frozen? ⟨C, i, none⟩ = false) :=
  ⟨by rw [blk_cell h.blk]; rfl, by rw [blk_cell h.blk]; rfl, by rw [blk_cell h.blk]; rfl, by rw [blk_cell h.blk]; rfl, by rw [blk_cell h.blk]; rfl, by rw [blk_cell h.blk]; rfl, blk_free h.blk⟩

theorem CB.grow {n0 p B C k g c cap : Nat} {A : Option Addr} {w W w1 : World} {kd cl fn tn : Int} {sn : Value} {cs : List Value} (h : CB n0 w p B C kd cl fn tn sn (.slice A k c) k W) (a b : Int) (s : ByteArray) (hab : a = 5 → 0 ≤ b)
    (hc : W.ownsRow w.heap.size 75 3 (.slice A k c) k cs) (hi : ItemCells cs k) (ho : w1.ownsRow w.heap.size 75 3 (.slice (some ⟨g, 0, none⟩) (k + 1) cap) (k + 1) (cs ++ [.int .i64 a, .int .i64 b, .string s])) (hk : Keep (fun i => (Value.slice A k c).ownBlock = some i) W w1) :
    CB n0 w p B C kd cl fn tn sn (.slice (some ⟨g, 0, none⟩) (k + 1) cap) (k + 1) (w1.setCell ⟨C, 5, none⟩ (.slice (some ⟨g, 0, none⟩) (k + 1) cap)) := by
  have hb := (hk.block C (blk_lt h.blk) (fun e => (h.own_ne _ e).2.1 rfl)).trans h.blk
  have hr := (hk.block B (blk_lt h.res) (fun e => (h.own_ne _ e).1 rfl)).trans h.res
  have hk2 : Keep (fun i => i = C) w1 (w1.setCell ⟨C, 5, none⟩ (.slice (some ⟨g, 0, none⟩) (k + 1) cap)) := keep_set (Keep.refl _ w1) _ _
  have hlow : ∀ i, (Value.slice A k c).ownBlock = some i → w.heap.size ≤ i := fun i e => own_low hc e
  have hn : NU n0 w1 p := h.nu.keep hk (fun e => (h.own_ne _ e).2.2 rfl) (fun i e => by have := hlow i e; have := h.low; omega)
  have hgb : ∀ b', (Value.slice (some ⟨g, 0, none⟩) (k + 1) cap).ownBlock = some b' → b' ≠ C := fun b' e => blk_own_ne hb ho e (by decide)
  refine ⟨hn.keep hk2 (fun e => h.ne.2.1 e.symm) (fun i e => by subst e; have := h.new.2; have := h.low; omega), (hk2.block B (blk_lt hr) h.ne.2.2).trans hr, blk_set hb 5 _, ⟨_, hk2.own ho hgb, ?_⟩, ?_, h.ne, h.new, h.low, h.sl⟩
  · exact hi.snoc (by have := hc.1; omega) a b s hab
  · exact (h.keep.then hk (fun i e => .inr (hlow i e))).then hk2 (fun i e => by rw [e]; exact .inr h.new.2)
theorem CB.rescells {n0 p B C k : Nat} {w W : World} {kd cl fn tn : Int} {sn v : Value} (h : CB n0 w p B C kd cl fn tn sn v k W) :
    W.cell? ⟨B, 0, none⟩ = some (.int .i64 0) ∧ W.cell? ⟨B, 1, none⟩ = some (.int .i64 0) ∧ W.cell? ⟨B, 2, none⟩ = some (.int .i64 0) ∧ W.cell? ⟨B, 3, none⟩ = some (.int .i64 0) ∧ W.cell? ⟨B, 4, none⟩ = some (.slice none 0 0) ∧ W.cell? ⟨B, 5, none⟩ = some (.slice none 0 0) ∧ (∀ i, W.frozen? ⟨B, i, none⟩ = false) :=
  ⟨by rw [blk_cell h.res]; rfl, by rw [blk_cell h.res]; rfl, by rw [blk_cell h.res]; rfl, by rw [blk_cell h.res]; rfl, by rw [blk_cell h.res]; rfl, by rw [blk_cell h.res]; rfl, blk_free h.res⟩
/-- Items in memory. -/
def ItemsW (n0 : Nat) (W : World) (A : Option Addr) (n : Nat) : Prop := n = 0 ∨ ∃ b cs, A = some ⟨b, 0, none⟩ ∧ W.heap[b]? = some (.cells cs 75 (0, 0)) ∧ n0 ≤ b ∧ ItemCells cs.toList n
def CellOut (n0 : Nat) (w : World) (p : Nat) (e : Ending) (w' : World) : Prop := ∃ (kd cl fn tn : Int) (NA : Option Addr) (NL NC : Nat) (IA : Option Addr) (IL IC : Nat),
  e = .returned (.agg #[.int .i64 kd, .int .i64 cl, .int .i64 fn, .int .i64 tn, .slice NA NL NC, .slice IA IL IC]) ∧ IL ≤ 3 ∧ ItemsW n0 w' IA IL ∧ NU n0 w' p ∧ Keep (fun k => k = p) w w'
theorem ItemCells.take {cs : List Value} {n m : Nat} (h : ItemCells (cs.take m) n) : ItemCells cs n := by
  intro j hj
  obtain ⟨a, b, s, h1, h2, h3, h4⟩ := h j hj
  have get : ∀ {i : Nat} {v : Value}, (cs.take m)[i]? = some v → cs[i]? = some v := by
    intro i v hv
    rw [List.getElem?_take] at hv
    split at hv
    · exact hv
    · cases hv
  exact ⟨a, b, s, get h1, get h2, get h3, h4⟩
theorem Try.strs : OneTy Try.prog 51 9 (.string ⟨#[]⟩) 16 := ⟨Try.underlying51, by kernel_rfl, rfl⟩
theorem cb_ret {n0 p B C k c : Nat} {A : Option Addr} {w W : World} {kd cl fn tn : Int} {NA : Option Addr} {NL NC : Nat} (h : CB n0 w p B C kd cl fn tn (.slice NA NL NC) (.slice A k c) k W) (hk : k ≤ 3) (tmps : Array Value) (ht : tmps.getD 4 undef = .pointer (some ⟨B, 0, none⟩)) :
    bodyPost Try.prog Try.f32 (CellOut n0 w p) Exit.ret { tmps := tmps, defers := [] }
      ((((((W.setCell ⟨B, 0, none⟩ (.int .i64 kd)).setCell ⟨B, 1, none⟩ (.int .i64 cl)).setCell ⟨B, 2, none⟩ (.int .i64 fn)).setCell ⟨B, 3, none⟩ (.int .i64 tn)).setCell ⟨B, 4, none⟩ (.slice NA NL NC)).setCell ⟨B, 5, none⟩ (.slice A k c)) := by
  have hb := blk_set (blk_set (blk_set (blk_set (blk_set (blk_set h.res 0 (.int .i64 kd)) 1 (.int .i64 cl)) 2 (.int .i64 fn)) 3 (.int .i64 tn)) 4 (.slice NA NL NC)) 5 (.slice A k c)
  have hkk : Keep (fun i => i = B) W ((((((W.setCell ⟨B, 0, none⟩ (.int .i64 kd)).setCell ⟨B, 1, none⟩ (.int .i64 cl)).setCell ⟨B, 2, none⟩ (.int .i64 fn)).setCell ⟨B, 3, none⟩ (.int .i64 tn)).setCell ⟨B, 4, none⟩ (.slice NA NL NC)).setCell ⟨B, 5, none⟩ (.slice A k c)) :=
    keep_set (keep_set (keep_set (keep_set (keep_set (keep_set (Keep.refl _ W) _ _) _ _) _ _) _ _) _ _) _ _
  refine bodyPost_ret (results_cell_row rfl _ _ B _ _ _ _ ht hb Try.underlying54 rfl (by kernel_rfl)) rfl ?_
  refine ⟨kd, cl, fn, tn, NA, NL, NC, A, k, c, rfl, hk, ?_, h.nu.keep hkk (fun e => h.ne.1 e.symm) (fun i e => by subst e; have := h.new.1; have := h.low; omega), keep_new h.keep hkk h.new.1⟩
  obtain ⟨cs, ho, hi⟩ := h.own
  rcases ho.2 with ⟨_, h2⟩ | ⟨g, cap, cur, h1, h2, h3, h4, h5, h6, h7⟩
  · exact .inl h2
  · right
    injection h1 with h1 _ h1c
    subst h1
    have hg := (hkk.block g (blk_lt h3) (h.own_ne g rfl).1).trans h3
    exact ⟨g, cur, rfl, hg, by have := h.low; omega, ItemCells.take (m := k * 3) (by rw [h7]; exact hi)⟩
theorem set_items {cs : List Value} (hl : cs.length = 3) : ItemCells (((cs.set 0 (.int .i64 1)).set 1 (.int .i64 0)).set 2 (.string ⟨#[]⟩)) 1 := by
  intro j hj
  obtain rfl : j = 0 := by omega
  match cs, hl with
  | [x, y, z], _ => exact ⟨1, 0, ⟨#[]⟩, rfl, rfl, rfl, fun e => absurd e (by decide)⟩
theorem CB.fix {n0 p B C g c : Nat} {w W : World} {kd cl fn tn : Int} {sn : Value} (h : CB n0 w p B C kd cl fn tn sn (.slice (some ⟨g, 0, none⟩) 1 c) 1 W) :
    CB n0 w p B C kd cl fn tn sn (.slice (some ⟨g, 0, none⟩) 1 c) 1 (((W.setCell ⟨g, 0, none⟩ (.int .i64 1)).setCell ⟨g, 1, none⟩ (.int .i64 0)).setCell ⟨g, 2, none⟩ (.string ⟨#[]⟩)) := by
  obtain ⟨cs, ho, hi⟩ := h.own
  obtain ⟨n1, n2, n3⟩ := h.own_ne g rfl
  have hlow := own_low ho (k := g) rfl
  have hk : Keep (fun i => i = g) W (((W.setCell ⟨g, 0, none⟩ (.int .i64 1)).setCell ⟨g, 1, none⟩ (.int .i64 0)).setCell ⟨g, 2, none⟩ (.string ⟨#[]⟩)) := keep_set (keep_set (keep_set (Keep.refl _ W) _ _) _ _) _ _
  have hl : cs.length = 3 := by have := ho.1; omega
  exact ⟨h.nu.keep hk (fun e => n3 e.symm) (fun i e => by subst e; have := h.low; omega), (hk.block B (blk_lt h.res) (fun e => n1 e.symm)).trans h.res, (hk.block C (blk_lt h.blk) (fun e => n2 e.symm)).trans h.blk,
    ⟨_, (((ho.stored 0 (.int .i64 1)).1.stored 1 (.int .i64 0)).1.stored 2 (.string ⟨#[]⟩)).1, set_items hl⟩, keep_new h.keep hk hlow, h.ne, h.new, h.low, h.sl⟩
theorem CB.first {n0 p B C c : Nat} {A : Option Addr} {w W : World} {kd cl fn tn : Int} {sn : Value} (h : CB n0 w p B C kd cl fn tn sn (.slice A 1 c) 1 W) :
    ∃ g a b s, A = some ⟨g, 0, none⟩ ∧ W.cell? ⟨g, 0, none⟩ = some (.int .i64 a) ∧ W.cell? ⟨g, 1, none⟩ = some (.int .i64 b) ∧ W.cell? ⟨g, 2, none⟩ = some (.string s) ∧ (∀ i, W.frozen? ⟨g, i, none⟩ = false) := by
  obtain ⟨cs, ho, hi⟩ := h.own
  rcases ho.2 with ⟨_, h2⟩ | ⟨g, cap, cur, h1, h2, h3, h4, h5, h6, h7⟩
  · cases h2
  · injection h1 with h1 _ h1c
    subst h1
    have hc : ItemCells cur.toList 1 := ItemCells.take (m := 1 * 3) (by rw [h7]; exact hi)
    obtain ⟨a, b, s, c1, c2, c3, _⟩ := hc 0 (by omega)
    exact ⟨g, a, b, s, rfl, by rw [blk_cell h3]; simpa using c1, by rw [blk_cell h3]; simpa using c2, by rw [blk_cell h3]; simpa using c3, blk_free h3⟩
end Go.Proofs.Ytbbeoeoengogpaa
