/- A slice of strings as an argument. -/
import Derived.Test.YtbmmcdnmbdoglaaKM
import Derived.Test.YtbmmcdnmbdoglaaJ9
import Derived.SliceStrings
namespace Go.Proofs.Ytbmmcdnmbdoglaa
open Go.ChangeShapes Go.WideShapes Go.ChangeAt Go.RowKit
set_option linter.unusedVariables false
section
variable {H : Type} {enc : TypeId × Value → H} {P : Program}

theorem list_u8_eta (s : ByteArray) : sb s.data.toList = s := by cases s; rfl

theorem open_strs {W : World} {r : Reach} {b0 : Nat} {t e : TypeId} {v : Value} {d : DataW H} {p : List MemPlace} (ht : P.underlying t = some (.slice e)) (he : P.underlying e = some .string) (hC : P.cellsOf e = 1)
    (hv : Value.okWide P W r b0 t v) (h : DataW.Trod enc P W 0 (fun _ => true) true t v d p) (hlt : ∀ x ∈ p, x.block < W.heap.size) :
    ∃ A n c l, v = .slice A n c ∧ StrsAt W A n l ∧ ((A = none → n = 0 ∧ c = 0) ∧ n ≤ maxLen ∧ n ≤ c ∧ ∀ s ∈ l, s.length ≤ maxLen) := by
  obtain ⟨a0, len, cap, rfl⟩ := okWide_slice ht hv
  obtain ⟨fuel, hf⟩ := h
  rcases open_strings ht he hC hf with ⟨hcs, hx⟩ | ⟨a, len', cap', ss, hcs, _, hl, hm, hz, hx, hcell, hsz⟩
  · simp [Value.cells] at hcs
    obtain ⟨rfl, rfl, rfl⟩ := hcs
    exact ⟨none, 0, 0, [], rfl, CellsAt.nil _ _, fun _ => ⟨rfl, rfl⟩, by omega, by omega, by simp⟩
  · simp [Value.cells] at hcs
    obtain ⟨rfl, rfl, rfl⟩ := hcs
    simp only [Prod.mk.injEq] at hx
    obtain ⟨rfl, rfl⟩ := hx
    simp only [if_true] at hz
    refine ⟨some a, len, cap, (ss.take len).map (fun s => s.data.toList), rfl, ⟨by simp [strs]; omega, by unfold maxLen at hm; omega, fun h0 => ?_⟩, fun h => (by cases h), by omega, hl, ?_⟩
    · obtain ⟨b, off, spot⟩ := a
      have hspot : spot = none := by simpa [Addr.add] using World.cell?_spot (hcell 0 (by omega))
      subst hspot
      have hbW : b < W.heap.size := hlt (.cell b off) (MemPlace.mem_row.2 ⟨0, by omega, by simp⟩)
      refine ⟨b, off, rfl, hbW, fun j hj => ?_⟩
      have := hcell j (by omega)
      rw [Addr.add_lit] at this
      rw [this]
      have hj' : j < ss.length := by omega
      have e1 : (strs ((ss.take len).map (fun s => s.data.toList)))[j]? = some (.string (ss[j])) := by
        unfold strs
        rw [List.map_map, List.getElem?_map, List.getElem?_take_of_lt hj, List.getElem?_eq_getElem hj']
        show some (Value.string (sb (ss[j]).data.toList)) = _
        rw [list_u8_eta]
      have e2 : ss.getD j ByteArray.empty = ss[j] := by rw [List.getD_eq_getElem?_getD, List.getElem?_eq_getElem hj']; rfl
      rw [e2]
      exact e1.symm
    · intro s hs
      obtain ⟨b, hb, rfl⟩ := List.mem_map.1 hs
      have := hsz b (List.mem_of_mem_take hb)
      rw [Array.length_toList]
      exact this
end
end Go.Proofs.Ytbmmcdnmbdoglaa
