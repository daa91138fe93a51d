/- Sums for whatever number of tenants; append of entries; what AccountSums carries. -/
import Derived.Test.YtbbeoeoengogpaaU8
namespace Go.Proofs.Ytbbeoeoengogpaa
open Go.RowKit
set_option linter.unusedVariables false

def SL (x : Int) (es : List Ent) : List Int := if 1 ≤ x ∧ x ≤ 4 then sumsL x.toNat es else []
theorem SL_len (x : Int) (a b : List Ent) : (SL x a).length = (SL x b).length := by unfold SL; split <;> simp [sumsL_length]
theorem SL_len4 (x : Int) (a : List Ent) : (SL x a).length ≤ 4 := by unfold SL; split <;> simp [sumsL_length]; omega
theorem SL_same {x : Int} {a b : List Ent} (h : ∀ t, sumT t a = sumT t b) : SL x a = SL x b := by unfold SL; rw [sumsL_same h]
theorem SL_add (x : Int) (a b : List Ent) (k : Nat) (hk : k < (SL x (a ++ b)).length) : (SL x a).getD k 0 + (SL x b).getD k 0 = (SL x (a ++ b)).getD k 0 := by
  unfold SL at hk ⊢
  split
  · rename_i h
    rw [if_pos h, sumsL_length] at hk
    exact sumsL_add _ a b k hk
  · rename_i h
    rw [if_neg h] at hk
    simp at hk
theorem SL_bd (x : Int) (a : List Ent) (h : ∀ e ∈ a, e.IL ≤ 3) (k : Nat) : 0 ≤ (SL x a).getD k 0 ∧ (SL x a).getD k 0 ≤ 40 * a.length := by
  unfold SL
  split
  · by_cases hk : k < x.toNat
    · rw [sumsL_getD _ _ _ hk]
      exact sumT_bd _ a h
    · rw [List.getD_eq_getElem?_getD, List.getElem?_eq_none (by rw [sumsL_length]; omega)]
      simp
      omega
  · simp
    omega
theorem since_below {w w' : World} (h : Below w.heap.size w w') : Since w.heap.size w w' := ⟨h.os, h.tape, h.output, h.size, fun k hk hn => h.block k hk⟩
theorem sums_all {w : World} {A : Option Addr} {n c : Nat} {es : List Ent} (h : RowE w A n c es) (x : Int) :
    Calls Try.prog 25 #[.slice A n c, .int .i64 x] w fun e w' => ∃ v, e = .returned v ∧ w'.ownsRow w.heap.size 3 1 v (SL x es).length (ints (SL x es)) ∧ Since w.heap.size w w' := by
  by_cases hx : 1 ≤ x ∧ x ≤ 4
  · obtain ⟨T, rfl⟩ := Int.eq_ofNat_of_zero_le (show 0 ≤ x by omega)
    have hs : SL (T : Int) es = accs T (es.map Ent.pair) := by
      unfold SL
      rw [if_pos hx, accs_sums T es.length es rfl (by rw [h.len]; have := h.le; omega) h.il]
      rfl
    rw [hs, accs_length]
    refine (sums_any A n c es T w h.ents (fun b off e => h.lt _ e) (by omega) (by omega)).mono ?_
    rintro e w' ⟨v, he, ho, hb⟩
    exact ⟨v, he, ho, since_below hb⟩
  · have hs : SL x es = [] := by unfold SL; rw [if_neg hx]
    rw [hs]
    have hk := Since.of (n := w.heap.size) ((Keep.refl (fun _ => False) w).alloc' (.cells #[.int .i64 x] 3))
    have HK := Lib.hid hk
    clear hk h hs
    by_cases h1 : x < 1
    · have g1 : decide (x < 1) = true := by simpa using h1
      go_enter Try.func25, Try.ntmps25
      go_wp2_with fail
      go_ret
      exact ⟨_, rfl, World.ownsRow_nil _ _ _ _, HK.out⟩
    · have g1 : decide (x < 1) = false := by simpa using h1
      have g2 : decide (4 < x) = true := by simp; omega
      go_enter Try.func25, Try.ntmps25
      go_wp2_with fail
      go_ret
      exact ⟨_, rfl, World.ownsRow_nil _ _ _ _, HK.out⟩
theorem ref_all {w : World} {A : Option Addr} {n c : Nat} {es : List Ent} (h : RowE w A n c es) (x : Int) :
    Calls Try.prog 26 #[.slice A n c, .int .i64 x] w fun e w' => ∃ v, e = .returned v ∧ w'.ownsRow w.heap.size 3 1 v (SL x es).length (ints (SL x es)) ∧ Since w.heap.size w w' := by
  by_cases hx : 1 ≤ x ∧ x ≤ 4
  · obtain ⟨T, rfl⟩ := Int.eq_ofNat_of_zero_le (show 0 ≤ x by omega)
    have hs : SL (T : Int) es = sumsL T es := by
      unfold SL
      rw [if_pos hx]
      rfl
    rw [hs, sumsL_length]
    exact refsums_any h T (by omega)
  · have hs : SL x es = [] := by unfold SL; rw [if_neg hx]
    rw [hs]
    clear h hs
    by_cases h1 : x < 1
    · have g1 : decide (x < 1) = true := by simpa using h1
      go_enter Try.func26, Try.ntmps26
      go_wp2_with fail
      go_ret
      exact ⟨_, rfl, World.ownsRow_nil _ _ _ _, Keep.refl _ _⟩
    · have g1 : decide (x < 1) = false := by simpa using h1
      have g2 : decide (4 < x) = true := by simp; omega
      go_enter Try.func26, Try.ntmps26
      go_wp2_with fail
      go_ret
      exact ⟨_, rfl, World.ownsRow_nil _ _ _ _, Keep.refl _ _⟩

/-- append of entries onto entries. -/
theorem wpList_append_ents {w : World} {ops : Array Oper} {rest : List Oper} {o : Oper} {a : Act} {Q : Exit → Act → World → Prop} (hgd : o.guard = none) (s x : Operand)
    (ho : o.op = .call { callee := .builtin .append, args := #[s, x], argTypes := #[47, 47] }) {A B : Option Addr} {n c m d : Nat} {es fs : List Ent}
    (hs : a.eval s = .slice A n c) (hr : RowE w A n c es) (hx : a.eval x = .slice B m d) (hr2 : RowE w B m d fs) (hnm : n + m ≤ 16)
    (h : ∀ A' c' w', RowE w' A' (n + m) c' (es ++ fs) → Keep (fun i => (Value.slice A n c).ownBlock = some i) w w' → wpList Try.prog ops Q rest (a.put o.dst (.slice A' (n + m) c')) w') : wpList Try.prog ops Q (o :: rest) a w := by
  obtain ⟨i0, hi, hz0, hz1, hz2⟩ := info_parts (show (Try.prog.info? 56).map (fun i => (i.zero, i.size, i.bytes)) = some (some (.agg #[.int .i64 0, .int .i64 0, .int .i64 0, .int .i64 0, .int .i64 0, .slice none 0 0, .slice none 0 0]), 7, 88) by kernel_rfl)
  obtain ⟨base, hown⟩ := hr.own
  have hown0 := own_zero hown
  have hil : ∀ e ∈ es ++ fs, e.IL ≤ 3 := fun e he => by
    rcases List.mem_append.1 he with h1 | h1
    · exact hr.il e h1
    · exact hr2.il e h1
  by_cases hm : m = 0
  · subst hm
    obtain rfl := hr2.nil rfl
    obtain rfl := hr2.cap rfl
    obtain rfl : fs = [] := List.eq_nil_of_length_eq_zero hr2.len
    refine wpList_append_own_none hgd s x _ ho 0 _ i0 7 Try.underlying47 hi (.slice A n c) n (entc es) hs hown0 hx ?_
    have := h A c w ⟨⟨base, by simpa using hown⟩, by simpa using hr.nil, hnm, hil⟩ (Keep.refl _ _)
    simpa using this
  · obtain ⟨b2, ho2⟩ := hr2.own
    obtain ⟨g, cur, rfl, _, hg2, hg3⟩ := own_at ho2 (by omega)
    refine wpList_append_lies w hgd s x _ ho 0 56 i0 _ 7 88 Try.underlying47 hi hz0 hz1 hz2 rfl (by decide) (.slice A n c) n (entc es) hs hown0 ⟨g, 0, none⟩ m d (entc fs) hx (by rw [entc_length, hr2.len]) (fun j u hu => by
      have hj := (List.getElem?_eq_some_iff.1 hu).1
      rw [entc_length, hr2.len] at hj
      rw [Addr.add_lit, Nat.zero_add, hg3 j (by omega)]
      exact hu) (entc_one_cell fs) (by omega) (by unfold maxLen; omega) (by omega) (Nat.zero_le _) _ rfl ?_
    intro g2 cap w1 hown1 hgrow hat hlt
    exact h (some ⟨g2, 0, none⟩) cap w1 ⟨⟨0, by rw [entc_append]; exact hown1⟩, fun e => absurd e (by omega), hnm, hil⟩ ((Keep.refl _ w).grown hgrow (fun k e => .inl e))
end Go.Proofs.Ytbbeoeoengogpaa
