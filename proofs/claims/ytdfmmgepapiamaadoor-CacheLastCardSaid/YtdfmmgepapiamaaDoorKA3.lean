/- A list of acts of three whole numbers as an argument. -/
import Derived.Test.YtdfmmgepapiamaaDoorKM
import Derived.Test.YtdfmmgepapiamaaDoorKB
import Derived.Deep.Slices
import Derived.Deep.Fields
namespace Go.Proofs.YtdfmmgepapiamaaDoor
open Go.ChangeShapes Go.WideShapes Go.ChangeAt Go.RowKit Go.Deep
set_option linter.unusedVariables false

/-- Three numbers of an act. -/
structure Act' where
  (x y z : Int)
structure Act'.Ok (a : Act') : Prop where
  x : -9223372036854775808 ≤ a.x ∧ a.x ≤ 9223372036854775807
  y : -9223372036854775808 ≤ a.y ∧ a.y ≤ 9223372036854775807
  z : -9223372036854775808 ≤ a.z ∧ a.z ≤ 9223372036854775807
def Act'.cells (a : Act') : List Value := [.int .i64 a.x, .int .i64 a.y, .int .i64 a.z]
def Act'.dflt : Act' := ⟨0, 0, 0⟩
def ActsAt (w : World) (A : Option Addr) (n : Nat) (l : List Act') : Prop :=
  l.length = n ∧ n ≤ 9223372036854775807 ∧ (∀ a ∈ l, a.Ok) ∧
  (0 < n → ∃ b off, A = some ⟨b, off, none⟩ ∧ b < w.heap.size ∧ ∀ j, j < n → ∀ i, i < 3 → w.cell? ⟨b, off + (j * 3 + i), none⟩ = some ((l.getD j Act'.dflt).cells.getD i undef))
theorem ActsAt.keep {F : Nat → Prop} {w w' : World} {A : Option Addr} {n : Nat} {l : List Act'} (h : ActsAt w A n l) (hk : Keep F w w') (hF : ∀ k, k < w.heap.size → ¬ F k) : ActsAt w' A n l :=
  ⟨h.1, h.2.1, h.2.2.1, fun h0 => let ⟨b, off, e, hl, hc⟩ := h.2.2.2 h0; ⟨b, off, e, Nat.lt_of_lt_of_le hl hk.size, fun j hj i hi => (hk.cell (p := ⟨b, off + (j * 3 + i), none⟩) hl (hF b hl)).trans (hc j hj i hi)⟩⟩

theorem ActsAt.at_ {w : World} {A : Option Addr} {n : Nat} {l : List Act'} (h : ActsAt w A n l) (k : Nat) (hk : k < n) :
    ∃ b off, A = some ⟨b, off, none⟩ ∧ ∃ a : Act', l.getD k Act'.dflt = a ∧ a.Ok ∧ w.cell? ⟨b, off + k * 3, none⟩ = some (.int .i64 a.x) ∧ w.cell? ⟨b, off + k * 3 + 1, none⟩ = some (.int .i64 a.y) ∧ w.cell? ⟨b, off + k * 3 + 2, none⟩ = some (.int .i64 a.z) := by
  obtain ⟨b, off, rfl, _, hc⟩ := h.2.2.2 (by omega)
  refine ⟨b, off, rfl, _, rfl, h.2.2.1 _ (getD_mem (by rw [h.1]; exact hk)), ?_, ?_, ?_⟩
  · exact hc k hk 0 (by omega)
  · have := hc k hk 1 (by omega); rwa [← Nat.add_assoc] at this
  · have := hc k hk 2 (by omega); rwa [← Nat.add_assoc] at this
theorem ActsAt.since {w w' : World} {A : Option Addr} {n m : Nat} {l : List Act'} (h : ActsAt w A n l) (hs : Since m w w') (hm : w.heap.size ≤ m) : ActsAt w' A n l :=
  h.keep hs (fun k hk h' => by omega)

section
variable {H : Type} {enc : TypeId × Value → H} {P : Program}
theorem open_acts {W : World} {r : Reach} {b0 : Nat} {t e : TypeId} {f0 f1 f2 : Field} {v : Value} {d : DataW H} {p : List MemPlace} (ht : P.underlying t = some (.slice e)) (he : P.underlying e = some (.struct #[f0, f1, f2]))
    (hone : oneCellFields P #[f0, f1, f2] = true) (hC : P.cellsOf e = 3) (u0 : P.underlying f0.type = some (.int .i64)) (u1 : P.underlying f1.type = some (.int .i64)) (u2 : P.underlying f2.type = some (.int .i64))
    (hv : Value.okWide P W r b0 t v) (h : DataW.Trod enc P W 0 (fun _ => true) true t v d p) (hlt : ∀ x ∈ p, x.block < W.heap.size) :
    ∃ A n c l, v = .slice A n c ∧ ActsAt W A n l := by
  obtain ⟨a0, len, cap, rfl⟩ := okWide_slice ht hv
  obtain ⟨fuel, hf⟩ := h
  rcases Go.Deep.open_slice ht hf with ⟨hcs, hx⟩ | ⟨a, len', cap', m, n, D, Pl, hcs, _, hl, hm, hmm, hx, hi⟩
  · simp [Value.cells] at hcs
    obtain ⟨rfl, rfl, rfl⟩ := hcs
    exact ⟨none, 0, 0, [], rfl, rfl, by omega, by simp, fun h => absurd h (by omega)⟩
  · simp [Value.cells] at hcs
    obtain ⟨rfl, rfl, rfl⟩ := hcs
    simp only [if_true] at hmm
    have key : ∀ j, j < len → ∃ x : Act', x.Ok ∧ ∀ i, i < 3 → W.cell? (a.add (j * 3 + i)) = some (x.cells.getD i undef) := by
      intro j hj
      obtain ⟨cs', hc, ht'⟩ := hi j (by omega)
      rw [hC] at hc
      obtain ⟨ys, n', _, _, hlen, hyl, hg⟩ := DataW.trod_struct he ht'
      obtain ⟨_, hcl, hat⟩ := World.cells?_some hc
      match cs', hcl with
      | [c0, c1, c2], _ =>
        obtain ⟨o0, k0⟩ := hone_of hone 0 f0 rfl
        obtain ⟨o1, k1⟩ := hone_of hone 1 f1 rfl
        obtain ⟨o2, k2⟩ := hone_of hone 2 f2 rfl
        match ys, hyl with
        | [y0, y1, y2], _ =>
          have g0 : DataW.trod enc P W 0 (fun _ => true) true n' f0.type [c0] = some y0 := by simpa [o0, k0] using hg 0 f0 rfl
          have g1 : DataW.trod enc P W 0 (fun _ => true) true n' f1.type [c1] = some y1 := by simpa [o1, k1] using hg 1 f1 rfl
          have g2 : DataW.trod enc P W 0 (fun _ => true) true n' f2.type [c2] = some y2 := by simpa [o2, k2] using hg 2 f2 rfl
          obtain ⟨x0, e0, _, w0⟩ := DataW.trod_int u0 g0
          obtain ⟨x1, e1, _, w1⟩ := DataW.trod_int u1 g1
          obtain ⟨x2, e2, _, w2⟩ := DataW.trod_int u2 g2
          injection e0 with e0 _; injection e1 with e1 _; injection e2 with e2 _
          refine ⟨⟨x0, x1, x2⟩, ⟨bd_i64 w0, bd_i64 w1, bd_i64 w2⟩, ?_⟩
          intro i hi4
          have := hat i hi4
          rw [Go.Deep.add_add] at this
          rw [this]
          match i, hi4 with
          | 0, _ => simp [Act'.cells, e0]
          | 1, _ => simp [Act'.cells, e1]
          | 2, _ => simp [Act'.cells, e2]
    have hch : ∃ l : List Act', l.length = len ∧ (∀ x ∈ l, x.Ok) ∧ ∀ j, j < len → ∀ i, i < 3 → W.cell? (a.add (j * 3 + i)) = some ((l.getD j Act'.dflt).cells.getD i undef) := by
      have : ∀ k, k ≤ len → ∃ l : List Act', l.length = k ∧ (∀ x ∈ l, x.Ok) ∧ ∀ j, j < k → ∀ i, i < 3 → W.cell? (a.add (j * 3 + i)) = some ((l.getD j Act'.dflt).cells.getD i undef) := by
        intro k
        induction k with
        | zero => exact fun _ => ⟨[], rfl, by simp, fun j hj => by omega⟩
        | succ k ih =>
          intro hk
          obtain ⟨l, h1, h2, h3⟩ := ih (by omega)
          obtain ⟨x, hx1, hx2⟩ := key k (by omega)
          refine ⟨l ++ [x], by simp [h1], fun y hy => ?_, fun j hj i hi4 => ?_⟩
          · rcases List.mem_append.1 hy with hy | hy
            · exact h2 y hy
            · obtain rfl : y = x := by simpa using hy
              exact hx1
          · by_cases hjk : j < k
            · have e : (l ++ [x]).getD j Act'.dflt = l.getD j Act'.dflt := by
                simp only [List.getD_eq_getElem?_getD]
                rw [List.getElem?_append_left (by omega)]
              rw [e]
              exact h3 j hjk i hi4
            · obtain rfl : j = k := by omega
              have e : (l ++ [x]).getD j Act'.dflt = x := by rw [← h1]; simp
              rw [e]
              exact hx2 i hi4
      exact this len (Nat.le_refl _)
    obtain ⟨l, h1, h2, h3⟩ := hch
    refine ⟨some a, len, cap, l, rfl, h1, by unfold maxLen at hm; omega, h2, fun h0 => ?_⟩
    obtain ⟨b, off, spot⟩ := a
    have hspot : spot = none := by simpa [Addr.add] using World.cell?_spot (h3 0 h0 0 (by omega))
    subst hspot
    have hbW : b < W.heap.size := by
      simp only [Prod.mk.injEq] at hx
      refine hlt (.cell b off) ?_
      rw [hx.2]
      exact List.mem_append.2 (.inl (MemPlace.mem_row.2 ⟨0, by rw [hC]; omega, by simp⟩))
    refine ⟨b, off, rfl, hbW, fun j hj i hi4 => ?_⟩
    have := h3 j hj i hi4
    rw [Addr.add_lit] at this
    exact this
end
end Go.Proofs.YtdfmmgepapiamaaDoor
