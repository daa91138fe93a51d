/- The contract of account.Sums, second part: the loop over the iterator. -/
import Derived.RangeFuncNested
import Derived.Shelf.Abstract
import Derived.Deep.OwnRows
import Derived.Test.YtbbeoeoengogpaaA4
namespace Go.Proofs.Ytbbeoeoengogpaa
open Go.RowKit
set_option linter.unusedVariables false
attribute [local go_sem] Oper.semAt_some

theorem sizes_in (F : Fence) (n : Nat) (h5 : F.fn 33) (hro : F.round = none) (A : Option Addr) (len cap : Nat) (w : World) :
    CallsIn F n Try.prog 33 #[.slice A len cap] w fun e w' => e = .returned (.func (.func 47) #[] #[.pointer (some ⟨w.heap.size, 0, none⟩)]) ∧ w' = w.alloc (.cells #[.slice A len cap] 47) := by
  refine callsIn_of_wp Try.func33 rfl h5 ?_ hro
  simp only [Try.ntmps33, List.size_toArray, List.length_cons, List.length_nil, Nat.reduceAdd, Nat.reduceSub, Array.replicate_succ, Array.replicate_zero, List.push_toArray, List.append_toArray, List.nil_append, List.cons_append]
  gi_wp2
  go_ret
  exact ⟨rfl, rfl⟩

theorem sizes_stops (F : Fence) (n : Nat) (h7 : F.fn 47) (hro : F.round = none) (hn : 1 ≤ n) (Bs n₀ : Nat) (A : Option Addr) (len cap : Nat) (es : List Ent) (w : World) (hBs : Bs < w.heap.size) (hn₀ : n₀ ≤ w.heap.size)
    (hc : w.cell? ⟨Bs, 0, none⟩ = some (.slice A len cap)) (hE : EntsAt w A len es) (hA : ∀ b off, A = some ⟨b, off, none⟩ → b < n₀) :
    SeqStopsK F n Try.prog 47 #[.pointer (some ⟨Bs, 0, none⟩)] (fun x : Int × Int => #[Value.int .i64 x.1, Value.int .i64 x.2]) (Below n₀) (fun ys => ys = es.map Ent.pair) (fun pre => ∃ k, k ≤ len ∧ pre = come es k) len w := fun l J Jx W hW hJ _ hY h0 => by
  have hc' := (hW.cell (p := ⟨Bs, 0, none⟩) hBs).trans hc
  exact sizes1_in F n h7 hro hn l Bs n₀ A len cap es J Jx hY (fun pre W1 o h1 h2 => hJ pre W1 _ none h2 (World.grownBy_alloc _ _ _) (fun r e => by cases e)) W hc' (hE.below hW) hA (Nat.le_trans hn₀ hW.size) h0

def upd (o : List Int) (x : Int × Int) : List Int := if 0 ≤ x.1 ∧ x.1 < o.length then o.set x.1.toNat (wrap64 (o.getD x.1.toNat 0 + x.2)) else o
theorem upd_length (o : List Int) (x : Int × Int) : (upd o x).length = o.length := by unfold upd; split <;> simp
def accs (T : Nat) (pre : List (Int × Int)) : List Int := pre.foldl upd (List.replicate T 0)
theorem accs_length (T : Nat) (pre : List (Int × Int)) : (accs T pre).length = T := by
  have : ∀ o, (pre.foldl upd o).length = o.length := by
    induction pre with
    | nil => intro o; rfl
    | cons x pre ih => intro o; rw [List.foldl_cons, ih, upd_length]
  rw [accs, this]; simp
theorem accs_snoc (T : Nat) (pre : List (Int × Int)) (x : Int × Int) : accs T (pre ++ [x]) = upd (accs T pre) x := by simp [accs]

def SumsI (w : World) (T : Nat) (pre : List (Int × Int)) (W : World) : Prop :=
  Boxed W w.heap.size 3 (.int .i64 T) ∧ Boxed W (w.heap.size + 1 + 1) 22 (.slice (some ⟨w.heap.size + 1, 0, none⟩) T T) ∧
  W.ownsRow w.heap.size 3 1 (.slice (some ⟨w.heap.size + 1, 0, none⟩) T T) T (ints (accs T pre)) ∧ Below w.heap.size w W
theorem grownBy_setAt (W : World) (a : Addr) (v : Value) : W.grownBy (W.setCell a v) (some a.block) :=
  ⟨rfl, rfl, rfl, (KeepsWalks.setCell W _ v).size, fun k _ hk => Below.heap_setCell _ _ _ k (fun e => hk (by rw [e]))⟩
theorem box_new (w : World) (t : TypeId) (v : Value) (b : Nat) (hb : b = w.heap.size) : (w.alloc (.cells #[v] t)).cell? ⟨b, 0, none⟩ = some v := by
  subst hb
  exact (Boxed.new w t v).cell
theorem sumsI_own (w : World) (T B : Nat) (hB : w.heap.size + 1 + 1 + 1 ≤ B) : OwnFrom B (SumsI w T) := by
  rintro s W W' row ⟨h1, h2, h3, h4⟩ hg hr
  refine ⟨h1.kept hg ?_, h2.kept hg ?_, h3.kept hg (.inr ?_), h4.grown hg h4.size (fun k e => by have := (hr k e).1; omega)⟩
  · intro e; have := (hr _ e.symm).1; omega
  · intro e; have := (hr _ e.symm).1; omega
  · intro e; have := (hr _ e.symm).1; simp at this; omega

set_option maxRecDepth 100000 in
theorem sums_any (A : Option Addr) (len cap : Nat) (es : List Ent) (T : Nat) (w : World) (hE : EntsAt w A len es) (hA : ∀ b off, A = some ⟨b, off, none⟩ → b < w.heap.size) (hT : 1 ≤ T) (hT4 : T ≤ 4) :
    Calls Try.prog 25 #[.slice A len cap, .int .i64 T] w fun e w' => ∃ v, e = .returned v ∧ w'.ownsRow w.heap.size 3 1 v T (ints (accs T (es.map Ent.pair))) ∧ Below w.heap.size w w' := by
  refine (callsIn_wide (n := 6)).1 ?_
  have g1 : decide ((T : Int) < 1) = false := by simp; omega
  have g2 : decide (4 < (T : Int)) = false := by simp; omega
  have hmk : ∀ W : World, (Instr.makeSlice 22 (.int .i64 (T : Int)) (.int .i64 (T : Int))).run Try.prog W = .ok (.slice (some ⟨W.heap.size, 0, none⟩) T T) (W.alloc (.cells (madeCells #[.int .i64 0] T) 3)) :=
    fun W => run_make_row' 22 3 (.int .i64 0) 8 Try.ints.ht Try.ints.info rfl .i64 .i64 T (by omega) (by omega) W
  have hf33 : Fence.wide.fn 33 := trivial
  refine callsIn_of_wp_marks Try.func25 rfl trivial ?_ rfl
  simp only [Try.ntmps25, List.size_toArray, List.length_cons, List.length_nil, Nat.reduceAdd, Nat.reduceSub, Array.replicate_succ, Array.replicate_zero, List.push_toArray, List.append_toArray, List.nil_append, List.cons_append]
  gi_wp2_with (gi_at_call 33; refine (sizes_in _ _ trivial rfl _ _ _ _).mono ?_; rintro e w' ⟨rfl, rfl⟩)
  have hst := sizes_stops Fence.wide (6 - 1) trivial rfl (by omega) (w.heap.size + 1 + 1 + 1) w.heap.size A len cap es
    ((((w.alloc (.cells #[.int .i64 T] 3)).alloc (.cells (madeCells #[.int .i64 0] T) 3)).alloc (.cells #[.slice (some ⟨w.heap.size + 1, 0, none⟩) T T] 22)).alloc (.cells #[.slice A len cap] 47))
    (by simp) (by simp; omega) (box_new _ _ _ _ (by simp)) (hE.below ((((below_alloc _).trans ((below_alloc _).mono (by simp))).trans ((below_alloc _).mono (by simp; omega))).trans ((below_alloc _).mono (by simp; omega)))) hA
  refine wpIn_rangeFunc_ownF rfl (by omega) (gf := 47) (lb := #[.pointer (some ⟨w.heap.size + 1 + 1 + 1, 0, none⟩)]) rfl trivial (enters_of Try.func47 (by kernel_rfl) rfl)
    hst belowK_t (belowK_b (by simp; omega)) (Below.refl _ _) (fun _ => rfl) (SumsI w T) (fun _ _ _ => False) (sumsI_own w T _ (by simp)) (fun _ _ _ _ _ hs _ _ => hs) ?start
    (fun x => { tmps := #[.slice A len cap, .int .i64 T, undef, .pointer (some ⟨w.heap.size, 0, none⟩), .slice none 0 0, .pointer (some ⟨w.heap.size + 1 + 1, 0, none⟩), .int .i64 x.1, .int .i64 x.2,
      .int .i64 T, .bool false, .bool false, .int .i64 T, .bool false, .bool false, .int .i64 T, .slice (some ⟨w.heap.size + 1, 0, none⟩) T T, .slice A len cap, .func (.func 47) #[] #[.pointer (some ⟨w.heap.size + 1 + 1 + 1, 0, none⟩)], .int .i64 x.1, .int .i64 x.2,
      undef, undef, undef, undef, undef, undef, undef, undef, undef, undef, undef, undef, undef, undef, undef], defers := [] }) ?assign ?body ?done ?stop
  case start =>
    refine ⟨(((Boxed.new w 3 (.int .i64 T)).alloc _).alloc _).alloc _, ?_, ?_, ?_⟩
    · have := Boxed.new ((w.alloc (.cells #[.int .i64 T] 3)).alloc (.cells (madeCells #[.int .i64 0] T) 3)) 22 (.slice (some ⟨w.heap.size + 1, 0, none⟩) T T)
      simp only [World.size_alloc] at this
      exact this.alloc _
    · have := own_new (w.alloc (.cells #[.int .i64 T] 3)) 3 (madeCells #[.int .i64 0] T) T w.heap.size (by simp [madeCells]) (by omega) (by simp)
      simp only [World.size_alloc, toList_madeCells_one] at this
      have e : ints (accs T []) = List.replicate T (.int .i64 0) := by simp [accs, ints]
      rw [e]
      exact (this.alloc _).alloc _
    · exact ((((below_alloc _).trans ((below_alloc _).mono (by simp))).trans ((below_alloc _).mono (by simp; omega))).trans ((below_alloc _).mono (by simp; omega)))
  case assign =>
    intro l x W K hK
    gi_wp2
    exact hK
  case body =>
    rintro l pre x W ⟨h1, h2, h3, h4⟩ _
    have c1 := h1.cell
    have c2 := h2.cell
    have f2 := h2.frozen
    have hl : (accs T pre).length = T := accs_length T pre
    have H1 := Lib.hid h1; clear h1
    have H2 := Lib.hid h2; clear h2
    have H4 := Lib.hid h4; clear h4
    have HL := Lib.hid hl; clear hl
    by_cases hx0 : 0 ≤ x.1
    · have d0 : decide (0 ≤ x.1) = true := by simpa using hx0
      by_cases hx1 : x.1 < T
      · have d1 : decide (x.1 < (T : Int)) = true := by simpa using hx1
        obtain ⟨t, ht⟩ := Int.eq_ofNat_of_zero_le hx0
        have hc := own_cell h3 t (by omega)
        have hf := h3.frozenAt t
        have hown := own_set h3 t (wrap64 ((accs T pre).getD t 0 + x.2))
        have hu : (accs T pre).set t (wrap64 ((accs T pre).getD t 0 + x.2)) = accs T (pre ++ [x]) := by
          rw [accs_snoc, upd, if_pos ⟨hx0, by rw [HL.out]; exact hx1⟩, ht]
          rfl
        rw [hu] at hown
        have H3 := Lib.hid hown; clear hown hu
        obtain ⟨x1, x2⟩ := x
        simp only at ht hx0 hx1 d0 d1
        subst ht
        simp only [List.getD_eq_getElem?_getD] at hc H3
        gi_wp2
        exact ⟨KeepsOthers.setCell _ _ _, (Below.refl _ W).setCell (p := ⟨w.heap.size + 1, t, none⟩) (by simp) _, H1.out.kept (grownBy_setAt _ _ _) (by simp), H2.out.kept (grownBy_setAt _ _ _) (by simp), H3.out, H4.out.setCell (p := ⟨w.heap.size + 1, t, none⟩) (by simp) _⟩
      · have d1 : decide (x.1 < (T : Int)) = false := by simpa using hx1
        have hu : accs T (pre ++ [x]) = accs T pre := by rw [accs_snoc, upd, if_neg (fun h => hx1 (by have := h.2; rw [HL.out] at this; exact this))]
        have HU := Lib.hid hu; clear hu
        gi_wp2
        exact ⟨KeepsOthers.refl _, Below.refl _ _, H1.out, H2.out, by rw [HU.out]; exact h3, H4.out⟩
    · have d0 : decide (0 ≤ x.1) = false := by simpa using hx0
      have hu : accs T (pre ++ [x]) = accs T pre := by rw [accs_snoc, upd, if_neg (fun h => hx0 h.1)]
      have HU := Lib.hid hu; clear hu
      gi_wp2
      exact ⟨KeepsOthers.refl _, Below.refl _ _, H1.out, H2.out, by rw [HU.out]; exact h3, H4.out⟩
  case done =>
    rintro D ys W hD rfl ⟨h1, h2, h3, h4⟩ hK
    have c2 := h2.cell
    gi_wp2
    refine ⟨by simp, .inl ⟨_, _, rfl, run_takeDeferred hK, ?_⟩⟩
    exact ⟨_, results_tmp rfl _ _ _, _, rfl, ownsRow_putObj h3 _ hK rfl, h4.trans (belowK_b (w := w) (Nat.le_refl _) W D _ _ (by simp at hD; omega) hK rfl rfl)⟩
  case stop =>
    rintro D c pre W _ _ h _
    exact h.elim
end Go.Proofs.Ytbbeoeoengogpaa
