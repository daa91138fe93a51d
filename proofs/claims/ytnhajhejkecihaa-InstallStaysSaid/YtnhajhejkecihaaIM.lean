/- Maps keyed by ints, told as functions: of bools that are all true, and of strings. -/
import Derived.Test.YtnhajhejkecihaaKB
import Derived.Maps.OwnSet
import Derived.Maps.StringElems
namespace Go.Proofs.Ytnhajhejkecihaa
open Go.RowKit Go.Maps
set_option linter.unusedVariables false

section
variable {P : Program} {k e t : TypeId} {w w' : World} {b c : Nat}
theorem wf64 {i : Int} (h : -9223372036854775808 ≤ i ∧ i ≤ 9223372036854775807) : (Lit.int .i64 i).wf = true := by
  have h1 : IntKind.i64.min = -9223372036854775808 := by decide
  have h2 : IntKind.i64.max = 9223372036854775807 := by decide
  simp [Lit.wf]
  omega
theorem owns_tight {H : Type} {R : Value → Option (DataW H × List MemPlace)} {n : Nat} {D : DataW H} (h : w.ownsMap P k R b n D) : w.ownsMap P k R b (Maps.size D) D := by
  obtain ⟨es, clock, hb, F, hs, hD⟩ := h
  refine ⟨es, clock, hb, F, ?_, hD⟩
  subst hD
  simp [Maps.size, length_sorted]
theorem owns_keep {H : Type} {R : Value → Option (DataW H × List MemPlace)} {n : Nat} {D : DataW H} {F : Nat → Prop} (h : w.ownsMap P k R b n D) (hk : Keep F w w') (hb : ¬ F b) : w'.ownsMap P k R b n D := by
  have hlt := h.lt
  obtain ⟨es, clock, h1, r⟩ := h
  exact ⟨es, clock, (hk.block b hlt hb).trans h1, r⟩
theorem turned_keep (h : w.mapTurned w' b) : Keep (fun i => i = b) w w' := (Keep.refl _ w).grown h.grown (fun k e => .inl (Option.some.inj e).symm)
theorem elem_bool {H : Type} (he : P.underlying e = some .bool) {v : Value} {x : Bool} {ps : List MemPlace} (h : plainElem (H := H) P e v = some (.lit (.bool x), ps)) : v = .bool x := by
  unfold plainElem at h
  rw [he] at h
  cases v <;> simp at h
  rw [h.1]
theorem elem_string {H : Type} (he : P.underlying e = some .string) {v : Value} {l : List UInt8} {ps : List MemPlace} (h : plainElem (H := H) P e v = some (.lit (.string l), ps)) : v = .string ⟨l.toArray⟩ := by
  unfold plainElem at h
  rw [he] at h
  cases v with
  | string s =>
    simp at h
    obtain ⟨_, h, _⟩ := h
    rw [← h]
  | _ => simp at h

/-- A map of bools, all of them true: S tells which keys there are, c how many. -/
def FB (P : Program) (k e : TypeId) (w : World) (b : Nat) (S : Int → Bool) (c : Nat) : Prop :=
  ∃ D : DataW Unit, w.ownsMap P k (plainElem P e) b c D ∧ Maps.size D = c ∧ ∀ i : Int, (Lit.int .i64 i).wf = true → Maps.has D (.int .i64 i) = S i ∧ (S i = true → ∀ z, D.atKey (.int .i64 i) z = .lit (.bool true))
variable {S : Int → Bool}
theorem FB.lt (h : FB P k e w b S c) : b < w.heap.size := let ⟨_, h, _⟩ := h; h.lt
theorem FB.made (w : World) : FB P k e (w.alloc (.map #[] 0)) w.heap.size (fun _ => false) 0 :=
  ⟨.map [], World.ownsMap_made w P k _, rfl, fun i _ => ⟨rfl, fun h => Bool.noConfusion h⟩⟩
theorem FB.keep {F : Nat → Prop} (h : FB P k e w b S c) (hk : Keep F w w') (hb : ¬ F b) : FB P k e w' b S c := let ⟨D, h1, h2, h3⟩ := h; ⟨D, owns_keep h1 hk hb, h2, h3⟩
theorem FB.look (h : FB P k e w b S c) (hk : P.underlying k = some (.int .i64)) (ht : P.underlying t = some (.map k e)) (he : P.underlying e = some .bool) (hz : (zeroValue e).run P w = .ok (.bool false) w) {i : Int} (hi : (Lit.int .i64 i).wf = true) :
    (Instr.lookup t (.map (some b)) (.int .i64 i) false).run P w = .ok (.bool (S i)) w := by
  obtain ⟨D, h1, h2, h3⟩ := h
  obtain ⟨v, ps, hrun, hv⟩ := h1.lookup (int_keyed hk) ht hz (plainElem_bool he false) (keyOf_int_mk hk hi)
  cases hS : S i with
  | true =>
    rw [(h3 i hi).2 hS] at hv
    rw [hrun, elem_bool he hv]
  | false =>
    rw [atKey_of_not_has ((h3 i hi).1.trans hS)] at hv
    rw [hrun, elem_bool he hv]
theorem key_ne {i j : Int} (h : j ≠ i) : (Lit.int .i64 j) ≠ (Lit.int .i64 i) := fun e => h (by injection e)
theorem FB.put (h : FB P k e w b S c) (hk : P.underlying k = some (.int .i64)) (ht : P.underlying t = some (.map k e)) (he : P.underlying e = some .bool) (hc : c < maxLen) {i : Int} (hi : (Lit.int .i64 i).wf = true) :
    ∃ w', (Instr.mapUpdate t (.map (some b)) (.int .i64 i) (.bool true)).run P w = .ok () w' ∧ FB P k e w' b (fun j => j == i || S j) (if S i then c else c + 1) ∧ Keep (fun j => j = b) w w' := by
  obtain ⟨D, h1, h2, h3⟩ := h
  obtain ⟨w', hrun, ho, hg⟩ := h1.store (int_keyed hk) ht hc (keyOf_int_mk hk hi) (plainElem_bool he true)
  have hkl : WideAt.IsKeyLit (.int .i64 i) := trivial
  have hsz : Maps.size (D.put (.int .i64 i) (.lit (.bool true))) = if S i then c else c + 1 := by
    rw [size_put (h1.tidy (int_keyed hk)), (h3 i hi).1, h2]
  refine ⟨w', hrun, ⟨_, hsz ▸ owns_tight ho, hsz, fun j hj => ?_⟩, turned_keep hg⟩
  by_cases hji : j = i
  · subst hji
    exact ⟨by rw [has_put_same h1.isMap hkl]; simp, fun _ z => atKey_put_same h1.isMap hkl _ z⟩
  · refine ⟨by rw [has_put_other (key_ne hji), (h3 j hj).1]; simp [hji], fun hs z => ?_⟩
    rw [atKey_put_other (key_ne hji)]
    exact (h3 j hj).2 (by simpa [hji] using hs) z
theorem FB.del (h : FB P k e w b S c) (hk : P.underlying k = some (.int .i64)) (ht : P.underlying t = some (.map k e)) {i : Int} (hi : (Lit.int .i64 i).wf = true) (ty : TypeId) :
    ∃ w', (Builtin.delete_ #[t, k] ty #[.map (some b), .int .i64 i]).run P w = .ok (.tuple #[]) w' ∧ FB P k e w' b (fun j => !(j == i) && S j) (if S i then c - 1 else c) ∧ Keep (fun j => j = b) w w' := by
  obtain ⟨D, h1, h2, h3⟩ := h
  obtain ⟨w', hrun, ho, hg⟩ := h1.drop (int_keyed hk) ht (keyOf_int_mk hk hi) ty
  have hsz : Maps.size (D.del (.int .i64 i)) = if S i then c - 1 else c := by
    have := size_del (k := .int .i64 i) (h1.tidy (int_keyed hk))
    rw [(h3 i hi).1, h2] at this
    split <;> simp_all <;> omega
  refine ⟨w', hrun, ⟨_, hsz ▸ owns_tight ho, hsz, fun j hj => ?_⟩, turned_keep hg⟩
  by_cases hji : j = i
  · subst hji
    exact ⟨by rw [has_del_same]; simp, fun hs => by simp at hs⟩
  · refine ⟨by rw [has_del_other (key_ne hji), (h3 j hj).1]; simp [hji], fun hs z => ?_⟩
    rw [atKey_del_other (key_ne hji)]
    exact (h3 j hj).2 (by simpa [hji] using hs) z
theorem FB.len (h : FB P k e w b S c) (ht : P.underlying t = some (.map k e)) (ty : TypeId) : (Builtin.len_ #[t] ty #[.map (some b)]).run P w = .ok (.int .i64 (c : Int)) w := by
  obtain ⟨D, h1, h2, h3⟩ := h
  rw [h1.len ht ty, h2]

/-- A map of strings. -/
def FS (P : Program) (k e : TypeId) (w : World) (b : Nat) (f : Int → Option (List UInt8)) (c : Nat) : Prop :=
  ∃ D : DataW Unit, w.ownsMap P k (plainElem P e) b c D ∧ Maps.size D = c ∧ ∀ i : Int, (Lit.int .i64 i).wf = true → Maps.has D (.int .i64 i) = (f i).isSome ∧ (∀ l, f i = some l → ∀ z, D.atKey (.int .i64 i) z = .lit (.string l))
variable {f : Int → Option (List UInt8)}
theorem FS.lt (h : FS P k e w b f c) : b < w.heap.size := let ⟨_, h, _⟩ := h; h.lt
theorem FS.made (w : World) : FS P k e (w.alloc (.map #[] 0)) w.heap.size (fun _ => none) 0 :=
  ⟨.map [], World.ownsMap_made w P k _, rfl, fun i _ => ⟨rfl, fun l h => by cases h⟩⟩
theorem FS.keep {F : Nat → Prop} (h : FS P k e w b f c) (hk : Keep F w w') (hb : ¬ F b) : FS P k e w' b f c := let ⟨D, h1, h2, h3⟩ := h; ⟨D, owns_keep h1 hk hb, h2, h3⟩
theorem FS.look (h : FS P k e w b f c) (hk : P.underlying k = some (.int .i64)) (ht : P.underlying t = some (.map k e)) (he : P.underlying e = some .string) (hz : (zeroValue e).run P w = .ok (.string ⟨#[]⟩) w) {i : Int} (hi : (Lit.int .i64 i).wf = true) :
    (Instr.lookup t (.map (some b)) (.int .i64 i) false).run P w = .ok (.string ⟨((f i).getD []).toArray⟩) w := by
  obtain ⟨D, h1, h2, h3⟩ := h
  obtain ⟨v, ps, hrun, hv⟩ := h1.lookup (int_keyed hk) ht hz (plainElem_string he (s := ⟨#[]⟩) (by unfold maxLen; show 0 ≤ _; omega)) (keyOf_int_mk hk hi)
  cases hS : f i with
  | some l =>
    rw [(h3 i hi).2 l hS] at hv
    rw [hrun, elem_string he hv]
    rfl
  | none =>
    rw [atKey_of_not_has (by rw [(h3 i hi).1, hS]; rfl)] at hv
    rw [hrun, elem_string he hv]
    rfl
theorem FS.look_ok (h : FS P k e w b f c) (hk : P.underlying k = some (.int .i64)) (ht : P.underlying t = some (.map k e)) (he : P.underlying e = some .string) (hz : (zeroValue e).run P w = .ok (.string ⟨#[]⟩) w) {i : Int} (hi : (Lit.int .i64 i).wf = true) :
    (Instr.lookup t (.map (some b)) (.int .i64 i) true).run P w = .ok (.tuple #[.string ⟨((f i).getD []).toArray⟩, .bool (f i).isSome]) w := by
  obtain ⟨D, h1, h2, h3⟩ := h
  obtain ⟨v, ps, hrun, hv⟩ := h1.look_ok (int_keyed hk) ht hz (plainElem_string he (s := ⟨#[]⟩) (by unfold maxLen; show 0 ≤ _; omega)) (keyOf_int_mk hk hi)
  rw [(h3 i hi).1] at hrun
  cases hS : f i with
  | some l =>
    rw [(h3 i hi).2 l hS] at hv
    rw [hrun, elem_string he hv, hS]
    rfl
  | none =>
    rw [atKey_of_not_has (by rw [(h3 i hi).1, hS]; rfl)] at hv
    rw [hrun, elem_string he hv, hS]
    rfl
theorem FS.put (h : FS P k e w b f c) (hk : P.underlying k = some (.int .i64)) (ht : P.underlying t = some (.map k e)) (he : P.underlying e = some .string) (hc : c < maxLen) {i : Int} (hi : (Lit.int .i64 i).wf = true) {s : ByteArray} (hs : s.size ≤ maxLen) :
    ∃ w', (Instr.mapUpdate t (.map (some b)) (.int .i64 i) (.string s)).run P w = .ok () w' ∧ FS P k e w' b (fun j => if j = i then some s.data.toList else f j) (if (f i).isSome then c else c + 1) ∧ Keep (fun j => j = b) w w' := by
  obtain ⟨D, h1, h2, h3⟩ := h
  obtain ⟨w', hrun, ho, hg⟩ := h1.store (int_keyed hk) ht hc (keyOf_int_mk hk hi) (plainElem_string he hs)
  have hkl : WideAt.IsKeyLit (.int .i64 i) := trivial
  have hsz : Maps.size (D.put (.int .i64 i) (.lit (.string s.data.toList))) = if (f i).isSome then c else c + 1 := by
    rw [size_put (h1.tidy (int_keyed hk)), (h3 i hi).1, h2]
  refine ⟨w', hrun, ⟨_, hsz ▸ owns_tight ho, hsz, fun j hj => ?_⟩, turned_keep hg⟩
  by_cases hji : j = i
  · subst hji
    refine ⟨by rw [has_put_same h1.isMap hkl]; simp, fun l hl z => ?_⟩
    simp only [if_pos] at hl
    rw [← Option.some.inj hl]
    exact atKey_put_same h1.isMap hkl _ z
  · refine ⟨by rw [has_put_other (key_ne hji), (h3 j hj).1]; simp [hji], fun l hl z => ?_⟩
    simp only [if_neg hji] at hl
    rw [atKey_put_other (key_ne hji)]
    exact (h3 j hj).2 l hl z
theorem FS.del (h : FS P k e w b f c) (hk : P.underlying k = some (.int .i64)) (ht : P.underlying t = some (.map k e)) {i : Int} (hi : (Lit.int .i64 i).wf = true) (ty : TypeId) :
    ∃ w', (Builtin.delete_ #[t, k] ty #[.map (some b), .int .i64 i]).run P w = .ok (.tuple #[]) w' ∧ FS P k e w' b (fun j => if j = i then none else f j) (if (f i).isSome then c - 1 else c) ∧ Keep (fun j => j = b) w w' := by
  obtain ⟨D, h1, h2, h3⟩ := h
  obtain ⟨w', hrun, ho, hg⟩ := h1.drop (int_keyed hk) ht (keyOf_int_mk hk hi) ty
  have hsz : Maps.size (D.del (.int .i64 i)) = if (f i).isSome then c - 1 else c := by
    have := size_del (k := .int .i64 i) (h1.tidy (int_keyed hk))
    rw [(h3 i hi).1, h2] at this
    split <;> simp_all <;> omega
  refine ⟨w', hrun, ⟨_, hsz ▸ owns_tight ho, hsz, fun j hj => ?_⟩, turned_keep hg⟩
  by_cases hji : j = i
  · subst hji
    exact ⟨by rw [has_del_same]; simp, fun l hl => by simp at hl⟩
  · refine ⟨by rw [has_del_other (key_ne hji), (h3 j hj).1]; simp [hji], fun l hl z => ?_⟩
    simp only [if_neg hji] at hl
    rw [atKey_del_other (key_ne hji)]
    exact (h3 j hj).2 l hl z
end
end Go.Proofs.Ytnhajhejkecihaa
