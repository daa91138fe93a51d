/- An argument that is an array of two []int, opened. -/
import Derived.Test.YtbbeoeoengogpaaAM
namespace Go.Proofs.Ytbbeoeoengogpaa
open Go.ChangeShapes Go.WideShapes Go.ChangeAt Go.RowKit
set_option linter.unusedVariables false
section
variable {H : Type} {enc : TypeId × Value → H} {P : Program}

theorem ints_of_trod {W : World} {fuel : Nat} {t e : TypeId} {cs : List Value} {x : DataW H × List MemPlace} (ht : P.underlying t = some (.slice e)) (he : P.underlying e = some (.int .i64)) (hC : P.cellsOf e = 1) (hB : P.bytesOf e = 8)
    (h : DataW.trod enc P W 0 (fun _ => true) true fuel t cs = some x) (hlt : ∀ y ∈ x.2, y.block < W.heap.size) (hsz : ∀ n ∈ DataW.weights P t x.1, n ≤ reachBytes) :
    ∃ A n c xs, cs = [.slice A n c] ∧ IntsAt W A n xs ∧ n ≤ 140737488351232 := by
  rcases open_ints ht he hC h with ⟨hcs, hx⟩ | ⟨a, len', cap', zs, hcs, _, hl, hm, hz, hx, hcell, hwz⟩
  · exact ⟨none, 0, 0, [], hcs, CellsAt.nil _ _, by omega⟩
  · subst hx
    simp only [if_true] at hz
    have hreach := hsz (((lits (H := H) .i64 (zs.take len')).length + (lits (H := H) .i64 (zs.drop len')).length) * P.bytesOf e) (by simp [DataW.weights, ht])
    rw [hB] at hreach
    simp only [lits, List.length_map, List.length_take, List.length_drop, reachBytes] at hreach
    refine ⟨some a, len', cap', zs.take len', hcs, ⟨by simp [ints]; omega, by unfold maxLen at hm; omega, fun h0 => ?_⟩, by omega⟩
    obtain ⟨b, off, spot⟩ := a
    have hspot : spot = none := by simpa [Addr.add] using World.cell?_spot (hcell 0 (by omega))
    subst hspot
    have hbW : b < W.heap.size := hlt (.cell b off) (MemPlace.mem_row.2 ⟨0, by omega, by simp⟩)
    refine ⟨b, off, rfl, hbW, fun j hj => ?_⟩
    have := hcell j (by omega)
    rw [Addr.add_lit] at this
    rw [this]
    simp [ints, hj, List.getD_eq_getElem?_getD, List.getElem?_eq_getElem (show j < zs.length by omega)]
theorem open_two_ints {W : World} {r : Reach} {b0 : Nat} {t e i : TypeId} {v : Value} {d : DataW H} {p : List MemPlace} (ht : P.underlying t = some (.array 2 e)) (hs : P.underlying e = some (.slice i)) (he : P.underlying i = some (.int .i64)) (hC : P.cellsOf t = 2) (hCe : P.cellsOf e = 1) (hCi : P.cellsOf i = 1) (hB : P.bytesOf i = 8)
    (hv : Value.okWide P W r b0 t v) (h : DataW.Trod enc P W 0 (fun _ => true) true t v d p) (hlt : ∀ x ∈ p, x.block < W.heap.size) (hsz : ∀ n ∈ DataW.weights P t d, n ≤ reachBytes) :
    ∃ A0 n0 c0 xs0 A1 n1 c1 xs1, v = .agg #[.slice A0 n0 c0, .slice A1 n1 c1] ∧ IntsAt W A0 n0 xs0 ∧ IntsAt W A1 n1 xs1 ∧ n0 ≤ 140737488351232 ∧ n1 ≤ 140737488351232 := by
  obtain ⟨cs, rfl, hsz'⟩ := okWide_array ht hv
  obtain ⟨fuel, hf⟩ := h
  obtain ⟨ys, m, _, hx, hl, hyl, hall⟩ := DataW.trod_array ht hf
  obtain ⟨l⟩ := cs
  have hl2 : l.length = 2 := by rw [hC] at hsz'; simpa using hsz'
  match l, hl2, ys, hyl with
  | [v0, v1], _, [y0, y1], _ =>
    have ecs : (Value.cells (.agg #[v0, v1])).toList = [v0, v1] := rfl
    simp only [Prod.mk.injEq] at hx
    obtain ⟨rfl, rfl⟩ := hx
    have a0 := hall 0 (by omega)
    have a1 := hall 1 (by omega)
    rw [hCe, ecs] at a0 a1
    have w0 : ∀ n ∈ DataW.weights P e y0.1, n ≤ reachBytes := fun n hn => hsz n (by simp [DataW.weights, DataW.weightsAll, ht, hn])
    have w1 : ∀ n ∈ DataW.weights P e y1.1, n ≤ reachBytes := fun n hn => hsz n (by simp [DataW.weights, DataW.weightsAll, ht, hn])
    obtain ⟨A0, n0, c0, xs0, h0, i0, b0'⟩ := ints_of_trod hs he hCi hB (cs := [v0]) (x := y0) a0 (fun y hy => hlt y (by simp [hy])) w0
    obtain ⟨A1, n1, c1, xs1, h1, i1, b1'⟩ := ints_of_trod hs he hCi hB (cs := [v1]) (x := y1) a1 (fun y hy => hlt y (by simp [hy])) w1
    injection h0 with h0
    injection h1 with h1
    subst h0 h1
    exact ⟨A0, n0, c0, xs0, A1, n1, c1, xs1, rfl, i0, i1, b0', b1'⟩
end
end Go.Proofs.Ytbbeoeoengogpaa
