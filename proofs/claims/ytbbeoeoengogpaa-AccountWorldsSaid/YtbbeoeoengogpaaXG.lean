/- An argument that is an array of two arrays of three ints, opened. -/
import Derived.Test.YtbbeoeoengogpaaAM
namespace Go.Proofs.Ytbbeoeoengogpaa
open Go.ChangeShapes Go.WideShapes Go.ChangeAt Go.RowKit
set_option linter.unusedVariables false
section
variable {H : Type} {enc : TypeId × Value → H} {P : Program} {w : World} {base : Nat} {spare : Nat → Bool} {held : Bool}

theorem three_ints {fuel : Nat} {e i : TypeId} {k : IntKind} {c0 c1 c2 : Value} {x : DataW H × List MemPlace} (hs : P.underlying e = some (.array 3 i)) (hi : P.underlying i = some (.int k)) (hCi : P.cellsOf i = 1)
    (h : DataW.trod enc P w base spare held fuel e [c0, c1, c2] = some x) : ∃ a b c : Int, c0 = .int k a ∧ c1 = .int k b ∧ c2 = .int k c := by
  obtain ⟨ys, m, _, _, _, hyl, hall⟩ := DataW.trod_array hs h
  match ys, hyl with
  | [y0, y1, y2], _ =>
    have a0 := hall 0 (by omega)
    have a1 := hall 1 (by omega)
    have a2 := hall 2 (by omega)
    rw [hCi] at a0 a1 a2
    obtain ⟨a, h0, _⟩ := DataW.trod_int hi (cs := [c0]) (x := y0) a0
    obtain ⟨b, h1, _⟩ := DataW.trod_int hi (cs := [c1]) (x := y1) a1
    obtain ⟨c, h2, _⟩ := DataW.trod_int hi (cs := [c2]) (x := y2) a2
    injection h0 with h0
    injection h1 with h1
    injection h2 with h2
    exact ⟨a, b, c, h0, h1, h2⟩
theorem open_grid {r : Reach} {b0 : Nat} {t e i : TypeId} {k : IntKind} {v : Value} {d : DataW H} {p : List MemPlace} (ht : P.underlying t = some (.array 2 e)) (hs : P.underlying e = some (.array 3 i)) (hi : P.underlying i = some (.int k)) (hC : P.cellsOf t = 6) (hCe : P.cellsOf e = 3) (hCi : P.cellsOf i = 1)
    (hv : Value.okWide P w r b0 t v) (h : DataW.Trod enc P w base spare held t v d p) : ∃ a b c x y z : Int, v = .agg #[.int k a, .int k b, .int k c, .int k x, .int k y, .int k z] := by
  obtain ⟨cs, rfl, hsz⟩ := okWide_array ht hv
  obtain ⟨fuel, hf⟩ := h
  obtain ⟨ys, m, _, _, hl, hyl, hall⟩ := DataW.trod_array ht hf
  obtain ⟨l⟩ := cs
  have hl6 : l.length = 6 := by rw [hC] at hsz; simpa using hsz
  match l, hl6, ys, hyl with
  | [v0, v1, v2, v3, v4, v5], _, [y0, y1], _ =>
    have ecs : (Value.cells (.agg #[v0, v1, v2, v3, v4, v5])).toList = [v0, v1, v2, v3, v4, v5] := rfl
    have a0 := hall 0 (by omega)
    have a1 := hall 1 (by omega)
    rw [hCe, ecs] at a0 a1
    obtain ⟨a, b, c, rfl, rfl, rfl⟩ := three_ints hs hi hCi (x := y0) a0
    obtain ⟨x, y, z, rfl, rfl, rfl⟩ := three_ints hs hi hCi (x := y1) a1
    exact ⟨a, b, c, x, y, z, rfl⟩
end
end Go.Proofs.Ytbbeoeoengogpaa
