/- The first records of a list, shortened. -/
import Derived.Test.YtbmmcdnmbdoglaaJ12
import Derived.Test.YtbmmcdnmbdoglaaJA
import Derived.Test.YtbmmcdnmbdoglaaKT
namespace Go.Proofs.Ytbmmcdnmbdoglaa
open Go.RowKit
set_option linter.unusedVariables false

def shb (s : Bytes) : Bytes := bs (sh (sb s))
theorem shb_len (s : Bytes) : (shb s).length ≤ 200 := by unfold shb; rw [bs_length]; exact sh_size _
def rcs (l : List Bytes) (k : Nat) : List Bytes := (l.take k).map shb
theorem rcs_len {l : List Bytes} {k : Nat} (h : k ≤ l.length) : (rcs l k).length = k := by unfold rcs; rw [List.length_map, List.length_take]; omega
theorem rcs_zero (l : List Bytes) : rcs l 0 = [] := rfl
theorem rcs_succ {l : List Bytes} {k : Nat} (h : k < l.length) : rcs l k ++ [bs (sh (sb (l.getD k [])))] = rcs l (k + 1) := by
  unfold rcs
  rw [List.take_add_one, List.getElem?_eq_getElem h, List.map_append, List.getD_eq_getElem?_getD, List.getElem?_eq_getElem h]
  rfl
theorem bytesOf_short : ∀ l : List Bytes, (∀ s ∈ l, s.length ≤ 200) → bytesOf l ≤ 216 * l.length
  | [], _ => Nat.le_refl _
  | r :: l, h => by
    have h1 := bytesOf_short l (fun s hs => h s (by simp [hs]))
    have h2 := h r (by simp)
    simp only [bytesOf, List.length_cons]
    omega
theorem rcs_bytes (l : List Bytes) (k : Nat) : bytesOf (rcs l k) ≤ 216 * k := by
  have h := bytesOf_short (rcs l k) (fun s hs => by
    unfold rcs at hs
    obtain ⟨a, _, rfl⟩ := List.mem_map.1 hs
    exact shb_len a)
  have h2 : (rcs l k).length ≤ k := by unfold rcs; rw [List.length_map, List.length_take]; omega
  have : 216 * (rcs l k).length ≤ 216 * k := Nat.mul_le_mul_left _ h2
  omega
theorem str_size {l : List Bytes} (h : ∀ s ∈ l, s.length ≤ maxLen) (k : Nat) : (sb (l.getD k [])).size ≤ 9223372036854775807 := by
  rw [sb_size, List.getD_eq_getElem?_getD]
  cases hx : l[k]? with
  | none => simp
  | some a =>
    have := h a (List.mem_of_getElem? hx)
    unfold maxLen at this
    show a.length ≤ _
    omega
end Go.Proofs.Ytbmmcdnmbdoglaa
