/- Rows of entries; what the sums are, in plain Lean; slices.Clone of entries. -/
import Derived.Test.YtbbeoeoengogpaaU5
namespace Go.Proofs.Ytbbeoeoengogpaa
open Go.RowKit
set_option linter.unusedVariables false

structure RowE (w : World) (A : Option Addr) (n c : Nat) (es : List Ent) : Prop where
  own : ∃ base, w.ownsRow base 56 7 (.slice A n c) n (entc es)
  nil : n = 0 → A = none
  le : n ≤ 16
  il : ∀ e ∈ es, e.IL ≤ 3
theorem RowE.len {w : World} {A : Option Addr} {n c : Nat} {es : List Ent} (h : RowE w A n c es) : es.length = n := let ⟨_, h⟩ := h.own; entc_inv h.1
theorem RowE.cap {w : World} {A : Option Addr} {n c : Nat} {es : List Ent} (h : RowE w A n c es) (hA : A = none) : c = 0 := by
  obtain ⟨base, ho⟩ := h.own
  rcases ho.2 with ⟨h1, _⟩ | ⟨g, _, _, h1, _⟩
  · injection h1
  · injection h1 with h1
    rw [hA] at h1
    cases h1
theorem RowE.ents {w : World} {A : Option Addr} {n c : Nat} {es : List Ent} (h : RowE w A n c es) : EntsAt w A n es := let ⟨_, ho⟩ := h.own; own_ents ho (by have := h.le; omega) (fun e he => by have := h.il e he; omega)
theorem RowE.keep {w w' : World} {A : Option Addr} {n c : Nat} {es : List Ent} {F : Nat → Prop} (h : RowE w A n c es) (hk : Keep F w w') (hF : ∀ b, A = some b → ¬ F b.block) : RowE w' A n c es :=
  ⟨let ⟨base, ho⟩ := h.own; ⟨base, hk.own ho (fun b e => by
    cases A with
    | none => simp [Value.ownBlock] at e
    | some a => have := hF a rfl; simp [Value.ownBlock] at e; rwa [e] at this)⟩, h.nil, h.le, h.il⟩
theorem RowE.lt {w : World} {A : Option Addr} {n c : Nat} {es : List Ent} (h : RowE w A n c es) : ∀ b, A = some b → b.block < w.heap.size := by
  obtain ⟨base, ho⟩ := h.own
  rintro b rfl
  exact own_lt ho b.block rfl
theorem RowE.since {w w' : World} {A : Option Addr} {n c : Nat} {es : List Ent} (h : RowE w A n c es) (hk : Since w.heap.size w w') : RowE w' A n c es := h.keep hk (fun b e hb => by have := h.lt b e; omega)

/-! ### Sums in plain Lean -/
def sumT (t : Int) : List Ent → Int
  | [] => 0
  | e :: es => (if e.tenant = t then e.size else 0) + sumT t es
theorem sumT_append (t : Int) : ∀ (a b : List Ent), sumT t (a ++ b) = sumT t a + sumT t b
  | [], b => by simp [sumT]
  | e :: a, b => by rw [List.cons_append, sumT, sumT, sumT_append t a b]; omega
theorem ent_size_bd {e : Ent} (h : e.IL ≤ 3) : 0 ≤ e.size ∧ e.size ≤ 40 := by unfold Ent.size; omega
theorem sumT_bd (t : Int) : ∀ (es : List Ent), (∀ e ∈ es, e.IL ≤ 3) → 0 ≤ sumT t es ∧ sumT t es ≤ 40 * es.length
  | [], _ => by simp [sumT]
  | e :: es, h => by
    have h1 := ent_size_bd (h e (by simp))
    have h2 := sumT_bd t es (fun x hx => h x (by simp [hx]))
    rw [sumT, List.length_cons]
    split <;> omega
theorem sumT_set (t : Int) : ∀ (es : List Ent) (i : Nat) (e : Ent), i < es.length → sumT t (es.set i e) + (if (es.getD i Ent.dflt).tenant = t then (es.getD i Ent.dflt).size else 0) = sumT t es + (if e.tenant = t then e.size else 0)
  | [], _, _, h => by simp at h
  | x :: es, 0, e, _ => by simp only [List.set_cons_zero, sumT, List.getD_cons_zero]; omega
  | x :: es, i + 1, e, h => by
    have := sumT_set t es i e (by simpa using h)
    simp only [List.set_cons_succ, sumT, List.getD_cons_succ]
    omega
theorem getD_set_ne {es : List Ent} {i j : Nat} {e : Ent} (h : i ≠ j) : (es.set i e).getD j Ent.dflt = es.getD j Ent.dflt := by
  rw [List.getD_eq_getElem?_getD, List.getD_eq_getElem?_getD, List.getElem?_set_ne h]
/-- Two entries change places. -/
def swapE (es : List Ent) (i j : Nat) : List Ent := (es.set i (es.getD j Ent.dflt)).set j (es.getD i Ent.dflt)
theorem sumT_swap (t : Int) (es : List Ent) (i j : Nat) (hi : i < es.length) (hj : j < es.length) (hij : i ≠ j) : sumT t (swapE es i j) = sumT t es := by
  have h1 := sumT_set t es i (es.getD j Ent.dflt) hi
  have h2 := sumT_set t (es.set i (es.getD j Ent.dflt)) j (es.getD i Ent.dflt) (by simpa using hj)
  rw [getD_set_ne hij] at h2
  unfold swapE
  omega
theorem swap_length (es : List Ent) (i j : Nat) : (swapE es i j).length = es.length := by simp [swapE]
theorem swap_il {es : List Ent} (i j : Nat) (hi : i < es.length) (hj : j < es.length) (h : ∀ e ∈ es, e.IL ≤ 3) : ∀ e ∈ swapE es i j, e.IL ≤ 3 := by
  intro e he
  unfold swapE at he
  rcases List.mem_or_eq_of_mem_set he with h1 | rfl
  · rcases List.mem_or_eq_of_mem_set h1 with h2 | rfl
    · exact h e h2
    · exact h _ (getD_mem hj)
  · exact h _ (getD_mem hi)
/-- The sums of all tenants. -/
def sumsL (T : Nat) (es : List Ent) : List Int := (List.range T).map (fun t : Nat => sumT (t : Int) es)
theorem sumsL_length (T : Nat) (es : List Ent) : (sumsL T es).length = T := by simp [sumsL]
theorem sumsL_getD (T : Nat) (es : List Ent) (t : Nat) (h : t < T) : (sumsL T es).getD t 0 = sumT (t : Int) es := by
  simp [sumsL, List.getD_eq_getElem?_getD, h]
theorem accs_sums (T : Nat) : ∀ (k : Nat) (es : List Ent), es.length = k → k ≤ 1000 → (∀ e ∈ es, e.IL ≤ 3) → accs T (es.map Ent.pair) = sumsL T es
  | 0, es, hl, _, _ => by
    obtain rfl := List.eq_nil_of_length_eq_zero hl
    apply List.ext_getElem (by rw [accs_length, sumsL_length])
    intro i h1 h2
    simp [accs, sumsL, sumT]
  | k + 1, es, hl, hk, h => by
    have hne : es ≠ [] := by intro e; subst e; simp at hl
    obtain ⟨fs, e, rfl⟩ : ∃ fs e, es = fs ++ [e] := ⟨es.dropLast, es.getLast hne, (List.dropLast_concat_getLast hne).symm⟩
    have hfl : fs.length = k := by simpa using hl
    have ih := accs_sums T k fs hfl (by omega) (fun x hx => h x (by simp [hx]))
    have he := ent_size_bd (h e (by simp))
    rw [List.map_append, List.map_cons, List.map_nil, accs_snoc, ih]
    have hr : ∀ i, (hi : i < T) → (sumsL T (fs ++ [e]))[i]'(by rw [sumsL_length]; exact hi) = sumT (i : Int) fs + (if e.tenant = (i : Int) then e.size else 0) := by
      intro i hi
      simp [sumsL, sumT_append, sumT]
    have hg : ∀ i, (hi : i < T) → (sumsL T fs)[i]'(by rw [sumsL_length]; exact hi) = sumT (i : Int) fs := by
      intro i hi
      simp [sumsL]
    by_cases hc : 0 ≤ e.tenant ∧ e.tenant < (T : Int)
    · obtain ⟨t, ht⟩ := Int.eq_ofNat_of_zero_le hc.1
      have htT : t < T := by omega
      have hb := sumT_bd (t : Int) fs (fun x hx => h x (by simp [hx]))
      have hu : upd (sumsL T fs) e.pair = (sumsL T fs).set t (sumT (t : Int) fs + e.size) := by
        unfold upd
        rw [if_pos (by rw [sumsL_length]; exact hc)]
        simp only [Ent.pair, ht, Int.toNat_natCast]
        rw [sumsL_getD _ _ _ htT]
        congr 1
        unfold wrap64
        rw [Int.emod_eq_of_lt (by omega) (by omega)]
        omega
      rw [hu]
      apply List.ext_getElem (by rw [List.length_set, sumsL_length, sumsL_length])
      intro i h1 h2
      rw [sumsL_length] at h2
      rw [hr i h2, List.getElem_set]
      split
      · rename_i hti
        subst hti
        rw [if_pos ht]
      · rename_i hti
        rw [if_neg (by omega), hg i h2]
        omega
    · have hu : upd (sumsL T fs) e.pair = sumsL T fs := by
        unfold upd
        rw [if_neg (by rw [sumsL_length]; exact hc)]
      rw [hu]
      apply List.ext_getElem (by rw [sumsL_length, sumsL_length])
      intro i h1 h2
      rw [sumsL_length] at h2
      rw [hr i h2, hg i h2, if_neg (by omega)]
      omega
theorem sumsL_add (T : Nat) (a b : List Ent) (k : Nat) (hk : k < T) : (sumsL T a).getD k 0 + (sumsL T b).getD k 0 = (sumsL T (a ++ b)).getD k 0 := by
  rw [sumsL_getD _ _ _ hk, sumsL_getD _ _ _ hk, sumsL_getD _ _ _ hk, sumT_append]
theorem sumsL_same {T : Nat} {a b : List Ent} (h : ∀ t, sumT t a = sumT t b) : sumsL T a = sumsL T b := by
  unfold sumsL
  congr 1
  funext t
  exact h t
theorem own_empty (w : World) (e : TypeId) (size : Nat) : (w.alloc (.cells #[] e)).ownsRow w.heap.size e size (.slice (some ⟨w.heap.size, 0, none⟩) 0 0) 0 [] :=
  ⟨by simp, .inr ⟨w.heap.size, 0, #[], rfl, Nat.le_refl _, heap_alloc_new _ _, Nat.le_refl _, by unfold maxLen; omega, by simp, by simp⟩⟩
theorem row_src {w : World} {g n : Nat} {xs : List Value} {es : List Ent} {o : Obj} (h : ∀ j, j < n * 7 → w.cell? ⟨g, j, none⟩ = xs[j]?) (hl : xs.length = es.length * 7) (he : es.length = n) (hg : g < w.heap.size) {j : Nat} {u : Value} (hu : xs[j]? = some u) : (w.alloc o).cell? ((⟨g, 0, none⟩ : Addr).add j) = some u := by
  have hj := (List.getElem?_eq_some_iff.1 hu).1
  rw [Addr.add_lit, Nat.zero_add]
  exact cell_kept ((Keep.refl (fun _ => False) w).alloc' o) ((h j (by omega)).trans hu) id
set_option maxRecDepth 100000 in
set_option maxHeartbeats 2000000 in
theorem clone_ents {w : World} {A : Option Addr} {n c : Nat} {es : List Ent} (h : RowE w A n c es) :
    Calls Try.prog 23 #[.slice A n c] w fun e w' => ∃ A' c', e = .returned (.slice A' n c') ∧ RowE w' A' n c' es ∧ (∀ b, A' = some b → w.heap.size ≤ b.block) ∧ Since w.heap.size w w' := by
  have hn := h.le
  obtain ⟨i0, hi, hz0, hz1, hz2⟩ := info_parts (show (Try.prog.info? 56).map (fun i => (i.zero, i.size, i.bytes)) = some (some (.agg #[.int .i64 0, .int .i64 0, .int .i64 0, .int .i64 0, .int .i64 0, .slice none 0 0, .slice none 0 0]), 7, 88) by kernel_rfl)
  have HI := Lib.hid hi
  have HZ0 := Lib.hid hz0
  have HZ1 := Lib.hid hz1
  have HZ2 := Lib.hid hz2
  have H := Lib.hid h
  by_cases h0 : n = 0
  · subst h0
    obtain rfl := h.nil rfl
    obtain rfl := h.cap rfl
    have hq := fun w => Lib.run_eql_slice_nil (P := Try.prog) w 47 56 none 0 0 0 0 Try.underlying47
    obtain rfl : es = [] := List.eq_nil_of_length_eq_zero h.len
    clear h hi hz0 hz1 hz2
    go_enter Try.func23, Try.ntmps23
    go_wp2_with fail
    go_ret
    exact ⟨none, 0, rfl, ⟨⟨0, World.ownsRow_nil _ _ _ _⟩, fun _ => rfl, by omega, H.out.il⟩, fun b e => by (cases e), Keep.refl _ _⟩
  · obtain ⟨base, ho⟩ := h.own
    obtain ⟨g, cur, rfl, hg1, hg2, hg3⟩ := own_at ho (by omega)
    have HG := Lib.hid hg3
    have HO := Lib.hid ho
    have hgl := blk_lt hg2
    have hel := h.len
    have hq := fun w => Lib.run_eql_slice_nil (P := Try.prog) w 47 56 (some ⟨g, 0, none⟩) n c 0 0 Try.underlying47
    clear h hi hz0 hz1 hz2 hg3 ho hg2 hg1
    go_enter Try.func23, Try.ntmps23
    go_wp2_with (at_builtin; refine wpList_append_lies _ rfl _ _ _ rfl w.heap.size 56 i0 _ 7 88 Try.underlying47 HI.out HZ0.out HZ1.out HZ2.out rfl (by decide) _ 0 [] rfl (own_empty w 56 7) ⟨g, 0, none⟩ n c (entc es) rfl (by rw [entc_length, hel]) (fun j u hu => row_src HG.out (entc_length es) hel hgl hu) (entc_one_cell es) (by omega) (by unfold maxLen; omega) (by omega) (by simp) _ rfl ?_; intro g2 cap w1 hown hgrow hat hlt; have hsn := (Since.of ((Keep.refl (fun _ => False) w).alloc' (.cells #[] 56))).grown hgrow (fun k e => .inl (own_low (own_empty w 56 7) e)); rw [Nat.zero_add, List.nil_append] at hown; have HOW := Lib.hid hown; have HSN := Lib.hid hsn; clear hown hgrow hat hlt hsn)
    go_ret
    exact ⟨some ⟨g2, 0, none⟩, cap, by simp, ⟨⟨_, HOW.out⟩, fun e => absurd e (by omega), hn, H.out.il⟩, fun b e => by cases e; exact own_low HOW.out rfl, HSN.out⟩
end Go.Proofs.Ytbbeoeoengogpaa
