/- Strings as arguments. -/
import Derived.Test.YtbmmcdnmbdoglaaKM
import Derived.ChangeMaps5
namespace Go.Proofs.Ytbmmcdnmbdoglaa
open Go.ChangeShapes Go.WideShapes Go.ChangeAt Go.RowKit
set_option linter.unusedVariables false

section
variable {H : Type} {enc : TypeId × Value → H} {P : Program} {w : World} {base : Nat} {spare : Nat → Bool} {held : Bool}
theorem open_str {r : Reach} {b0 : Nat} {t : TypeId} {v : Value} {d : DataW H} {p : List MemPlace} (ht : P.underlying t = some .string) (hv : Value.okWide P w r b0 t v) (h : DataW.Trod enc P w base spare held t v d p)
    (hsz : ∀ bytes, d = .lit (.string bytes) → bytes.length ≤ reachBytes) : ∃ s : ByteArray, v = .string s ∧ s.size ≤ 140737488351232 := by
  obtain ⟨s, rfl, hd, _, _⟩ := Go.ChangeMaps.open_string ht hv h
  refine ⟨s, rfl, ?_⟩
  have := hsz _ hd
  rw [Array.length_toList] at this
  exact this
end
end Go.Proofs.Ytbmmcdnmbdoglaa
