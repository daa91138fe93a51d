/- A site and its model: same, do. -/
import Derived.Test.YtdfmmgepapiamaaDoorS9
import Derived.Test.YtdfmmgepapiamaaDoorKA3
namespace Go.Proofs.YtdfmmgepapiamaaDoor
open Go.RowKit
set_option linter.unusedVariables false

/-- A site and a model, with what they know. -/
structure PQ (n : Nat) (w : World) (p q : Nat) (v : Value) (s r : CS) : Prop where
  site : IsSite w p s
  ref : RSite n w q v r
  base : n ≤ p
theorem PQ.ne {n : Nat} {w : World} {p q : Nat} {v : Value} {s r : CS} (h : PQ n w p q v s r) : p ≠ q ∧ ∀ k, v.ownBlock = some k → k ≠ p := by
  obtain ⟨e, _, _, hb, _⟩ := h.site
  refine ⟨?_, fun k hk => blk_own_ne hb h.ref.own hk (by decide)⟩
  rintro rfl
  have := h.ref.blk
  rw [hb] at this
  injection this with this
  injection this with _ h2
  exact absurd h2 (by decide)
theorem PQ.left {n : Nat} {w w' : World} {p q : Nat} {v : Value} {s s' r : CS} (h : PQ n w p q v s r) (hs : IsSite w' p s') (hk : Keep (fun k => k = p) w w') : PQ n w' p q v s' r :=
  ⟨hs, h.ref.keep hk (fun e => h.ne.1 e.symm) (fun k hk' e => h.ne.2 k hk' e), h.base⟩
theorem PQ.right {n : Nat} {w w' : World} {p q : Nat} {v v' : Value} {s r r' : CS} (h : PQ n w p q v s r) (hr : RSite n w' q v' r') (hk : Keep (fun k => k = q ∨ v.ownBlock = some k) w w') : PQ n w' p q v' s r' :=
  ⟨h.site.keep hk (fun e => by rcases e with e | e; exact h.ne.1 e; exact h.ne.2 p e rfl), hr, h.base⟩
theorem PQ.quiet {n m : Nat} {w w' : World} {p q : Nat} {v : Value} {s r : CS} (h : PQ n w p q v s r) (hk : Since m w w') (hm : w.heap.size ≤ m) : PQ n w' p q v s r :=
  ⟨h.site.since hk (Nat.lt_of_lt_of_le h.site.lt hm), h.ref.since hk hm, h.base⟩
theorem PQ.since_left {n : Nat} {w w' : World} {p q : Nat} {v : Value} {s r : CS} (h : PQ n w p q v s r) (hk : Keep (fun k => k = p) w w') : Since n w w' := since_at hk h.base
theorem PQ.since_right {n : Nat} {w w' : World} {p q : Nat} {v : Value} {s r : CS} (h : PQ n w p q v s r) (hk : Keep (fun k => k = q ∨ v.ownBlock = some k) w w') : Since n w w' :=
  Keep.mono hk (fun k e => by rcases e with e | e; have := h.ref.base; omega; exact own_low h.ref.own e)

set_option maxHeartbeats 4000000 in
set_option maxRecDepth 100000 in
theorem same_any {n : Nat} {w : World} {p q : Nat} {v : Value} {s : CS} (h : PQ n w p q v s s) (hT : TB w) :
    Calls Tryd.prog 21 #[.pointer (some ⟨p, 0, none⟩), .pointer (some ⟨q, 0, none⟩)] w fun e w' => e = .returned (.bool true) ∧ Since w.heap.size w w' := by
  have H := Lib.hid h
  have T := Lib.hid hT
  have h0 := hT.pos
  clear h hT
  go_enter Tryd.func21, Tryd.ntmps21
  go_wp2_with fail
  ((with_reducible refine (counts_any H.out.site).mono ?_); rintro e w1 ⟨rfl, k1, rfl⟩)
  have S1 := Lib.hid (since_draw w.heap.size k1 w)
  have P1 := Lib.hid (H.out.quiet S1.out (Nat.le_refl _))
  obtain ⟨w1, hw1⟩ : ∃ w1, w.drewN k1 = w1 := ⟨_, rfl⟩
  rw [hw1] at S1 P1 ⊢
  clear hw1
  go_wp2_with fail
  ((with_reducible refine (state_any P1.out.site).mono ?_); rintro e w2 ⟨rfl, rfl⟩)
  go_wp2_with fail
  ((with_reducible refine (ref_state P1.out.ref).mono ?_); rintro e w2 ⟨rfl, rfl⟩)
  have hst : (s.state == s.state) = true := by simp
  go_wp2_with fail
  ((with_reducible refine (shapes_any P1.out.site).mono ?_); rintro e w3 ⟨u3, rfl, ho3, hk3⟩)
  have P3 := Lib.hid (P1.out.quiet hk3 (Nat.le_refl _)); have S3 := Lib.hid (Keep.trans S1.out (Since.mono hk3 S1.out.size))
  obtain ⟨A3, c3, rfl, hc3⟩ := owns_cells ho3
  have C3 := Lib.hid hc3
  have Z3 := own_lt ho3
  clear ho3 hk3 hc3 P1 S1
  go_wp2_with fail
  ((with_reducible refine (rshapes P3.out.ref).mono ?_); rintro e w4 ⟨u4, rfl, ho4, hk4⟩)
  have P4 := Lib.hid (P3.out.quiet hk4 (Nat.le_refl _)); have S4 := Lib.hid (Keep.trans S3.out (Since.mono hk4 S3.out.size))
  obtain ⟨A4, c4, rfl, hc4⟩ := owns_cells ho4
  have C4 := Lib.hid hc4
  have D3 := Lib.hid (C3.out.keep hk4 (fun b hb => by
    have := Z3 b.block (by subst hb; rfl)
    omega))
  clear ho4 hk4 hc4 P3 S3 C3 Z3
  have heq := equal_any A3 A4 s.l.length s.l.length c3 c4 s.shapes s.shapes w4 D3.out C4.out
  rw [show decide (s.shapes = s.shapes) = true by simp] at heq
  have HEQ := Lib.hid heq
  clear heq
  go_wp2_with fail
  ((with_reducible refine HEQ.out.mono ?_); rintro e w5 ⟨rfl, k5, rfl⟩)
  have P5 := Lib.hid (P4.out.quiet (since_draw w4.heap.size k5 w4) (Nat.le_refl _)); have S5 := Lib.hid (Keep.trans S4.out (since_draw w.heap.size k5 w4))
  obtain ⟨w5, hw5⟩ : ∃ w5, w4.drewN k5 = w5 := ⟨_, rfl⟩
  rw [hw5] at S5 P5 ⊢
  clear hw5 S4 P4 HEQ D3 C4
  go_wp2_with fail
  ((with_reducible refine (text_any P5.out.site (T.out.since S5.out h0)).mono ?_); rintro e w6 ⟨rfl, hk6⟩)
  have P6 := Lib.hid (P5.out.quiet hk6 (Nat.le_refl _)); have S6 := Lib.hid (Keep.trans S5.out (Since.mono hk6 S5.out.size))
  clear hk6 S5 P5
  go_wp2_with fail
  ((with_reducible refine (rtext P6.out.ref).mono ?_); rintro e w7 ⟨rfl, hk7⟩)
  have P7 := Lib.hid (P6.out.quiet (Since.of (n := w6.heap.size) hk7) (Nat.le_refl _)); have S7 := Lib.hid (Keep.trans S6.out (Since.of hk7))
  clear hk7 S6 P6
  obtain ⟨A, c, _, _, _, d2, d3, _, _⟩ := P7.out.ref.cells
  go_wp2_with fail
  go_ret
  exact ⟨rfl, S7.out⟩

/-! ### do -/
theorem mod4_cases (x : Int) (hx : -9223372036854775808 ≤ x ∧ x ≤ 9223372036854775807) : ∃ r q : Int, x.tmod 4 = r ∧ -3 ≤ r ∧ r ≤ 3 ∧ (r + 4) % 4 = q ∧ (q = 2 ∨ q = 3 ∨ q = 0 ∨ q = 1) := by
  refine ⟨x.tmod 4, (x.tmod 4 + 4) % 4, rfl, ?_, ?_, rfl, by omega⟩
  · by_cases h : 0 ≤ x
    · rw [Int.tmod_eq_emod_of_nonneg h]; omega
    · have := Int.neg_tmod x 4
      have h2 := Int.tmod_eq_emod_of_nonneg (a := -x) (b := 4) (by omega)
      omega
  · by_cases h : 0 ≤ x
    · rw [Int.tmod_eq_emod_of_nonneg h]; omega
    · have := Int.neg_tmod x 4
      have h2 := Int.tmod_eq_emod_of_nonneg (a := -x) (b := 4) (by omega)
      omega
def BoxC (b : Nat) (y z : Int) (w : World) : Prop := w.cell? ⟨b, 1, none⟩ = some (.int .i64 y) ∧ w.cell? ⟨b, 2, none⟩ = some (.int .i64 z)
theorem BoxC.keep {b : Nat} {y z : Int} {w w' : World} {F : Nat → Prop} (h : BoxC b y z w) (hk : Keep F w w') (hF : ¬ F b) : BoxC b y z w' := ⟨cell_kept hk h.1 hF, cell_kept hk h.2 hF⟩
theorem box_far {b q : Nat} {v : Value} (hq : q < b) (hv : ∀ k, v.ownBlock = some k → k < b) : ¬ (b = q ∨ v.ownBlock = some b) := fun e => by
  rcases e with e | e
  · omega
  · have := hv b e; omega
def DoEnd (n : Nat) (w : World) (p q : Nat) (k : Int) (w' : World) : Prop := (∃ v s, PQ n w' p q v s s ∧ s.few k) ∧ Since n w w'
set_option maxHeartbeats 4000000 in
set_option maxRecDepth 100000 in
theorem do_any {n : Nat} {w : World} {p q : Nat} {v : Value} {s : CS} (h : PQ n w p q v s s) (hn : n ≤ w.heap.size) {k : Int} (hf : s.few k) (hk : k ≤ 999998) (a : Act') (ha : a.Ok) :
    Calls Tryd.prog 20 #[.pointer (some ⟨p, 0, none⟩), .pointer (some ⟨q, 0, none⟩), .agg #[.int .i64 a.x, .int .i64 a.y, .int .i64 a.z]] w fun e w' => e = .returned (.bool true) ∧ DoEnd n w p q (k + 1) w' := by
  obtain ⟨ax, ay, az⟩ := a
  have hay := ha.y
  have haz := ha.z
  obtain ⟨r, u, e1, r1, r2, e2, hu⟩ := mod4_cases ax ha.x
  simp only at hay haz e1 ⊢
  have hka : Keep (fun _ => False) w (w.alloc (.cells #[.int .i64 ax, .int .i64 ay, .int .i64 az] 34)) := (Keep.refl _ w).alloc' _
  have hba : (w.alloc (.cells #[.int .i64 ax, .int .i64 ay, .int .i64 az] 34)).heap[w.heap.size]? = some (.cells #[.int .i64 ax, .int .i64 ay, .int .i64 az] 34 (0, 0)) := heap_alloc_new _ _
  have HKA := Lib.hid hka
  have HBA := Lib.hid hba
  have H := Lib.hid h
  have HF := Lib.hid hf
  have hpl := h.site.lt
  have hql := h.ref.lt
  clear h hf ha hka hba
  have HQL := Lib.hid hql
  have HV := Lib.hid (own_lt H.out.ref.own)
  rcases hu with rfl | rfl | hu
  · go_enter Tryd.func20, Tryd.ntmps20
    go_wp2_with fail
    obtain ⟨wa, hwa⟩ : ∃ wa, w.alloc (.cells #[.int .i64 ax, .int .i64 ay, .int .i64 az] 34) = wa := ⟨_, rfl⟩
    rw [hwa] at HKA HBA ⊢
    have PA := Lib.hid (H.out.quiet (m := w.heap.size) (Since.of HKA.out) (Nat.le_refl _))
    have PD := Lib.hid (PA.out.quiet (m := wa.heap.size) (Since.of (keep_draw (fun _ => False) wa)) (Nat.le_refl _))
    have KC := Lib.hid (show BoxC w.heap.size ay az wa.drew from ⟨(blk_cell HBA.out 1), (blk_cell HBA.out 2)⟩)
    have K := Lib.hid (show Since n w wa.drew from Keep.trans (Since.of HKA.out) (Since.of (keep_draw _ _)))
    have L1 := Lib.hid (learn_any PD.out.site ay az hay haz)
    have L2 := Lib.hid (fun (W : World) (h : RSite n W q v s) (hW : n ≤ W.heap.size) => rlearn h hW ay az hay haz)
    have HFE := Lib.hid ((learn_few HF.out ay az).mono (show k ≤ k + 1 by omega))
    have hbb : ((s.learn ay az).1 == (s.learn ay az).1) = true := by simp
    clear hwa e1 e2
    go_region_held3 (fun w' => w'.cell? ⟨w.heap.size, 1, none⟩ = some (.int .i64 ay) ∧ w'.cell? ⟨w.heap.size, 2, none⟩ = some (.int .i64 az)) (first | exact KC.out)
      (first
        | (go_at_call 12; refine L1.out.mono ?_; rintro e wn ⟨rfl, hsn, hkn⟩; have PN := Lib.hid (PD.out.left hsn hkn); replace KC := Lib.hid (KC.out.keep hkn (by omega)); replace K := Lib.hid (Keep.trans K.out (PD.out.since_left hkn)); clear hsn hkn)
        | (go_at_call 29; refine (L2.out _ PN.out.ref (Nat.le_trans hn K.out.size)).mono ?_; rintro e wm ⟨rfl, ⟨v2, hrn⟩, hkn⟩; replace hkn := Keep.mono hkn (F' := fun k => k = q ∨ v.ownBlock = some k) (fun i hi => by first | exact hi | exact .inl hi); have PM := Lib.hid (PN.out.right hrn hkn); replace K := Lib.hid (Keep.trans K.out (PN.out.since_right hkn)); replace KC := Lib.hid (KC.out.keep hkn (box_far HQL.out HV.out)); clear hrn hkn))
    all_goals go_wp2_with fail
    all_goals go_ret
    all_goals exact ⟨rfl, ⟨⟨_, _, PM.out, HFE.out⟩, K.out⟩⟩
  · go_enter Tryd.func20, Tryd.ntmps20
    go_wp2_with fail
    obtain ⟨wa, hwa⟩ : ∃ wa, w.alloc (.cells #[.int .i64 ax, .int .i64 ay, .int .i64 az] 34) = wa := ⟨_, rfl⟩
    rw [hwa] at HKA HBA ⊢
    have PA := Lib.hid (H.out.quiet (m := w.heap.size) (Since.of HKA.out) (Nat.le_refl _))
    have PD := Lib.hid (PA.out.quiet (m := wa.heap.size) (Since.of (keep_draw (fun _ => False) wa)) (Nat.le_refl _))
    have KC := Lib.hid (show BoxC w.heap.size ay az wa.drew from ⟨(blk_cell HBA.out 1), (blk_cell HBA.out 2)⟩)
    have K := Lib.hid (show Since n w wa.drew from Keep.trans (Since.of HKA.out) (Since.of (keep_draw _ _)))
    have L1 := Lib.hid (forget_any PD.out.site ay)
    have L2 := Lib.hid (fun (W : World) (h : RSite n W q v s) (hW : n ≤ W.heap.size) => rforget h hW ay)
    have HFE := Lib.hid ((forget_few HF.out ay).mono (show k ≤ k + 1 by omega))
    have hbb : ((s.forget ay).1 == (s.forget ay).1) = true := by simp
    clear hwa e1 e2
    go_region_held3 (fun w' => w'.cell? ⟨w.heap.size, 1, none⟩ = some (.int .i64 ay) ∧ w'.cell? ⟨w.heap.size, 2, none⟩ = some (.int .i64 az)) (first | exact KC.out)
      (first
        | (go_at_call 15; refine L1.out.mono ?_; rintro e wn ⟨rfl, hsn, hkn⟩; have PN := Lib.hid (PD.out.left hsn hkn); replace KC := Lib.hid (KC.out.keep hkn (by omega)); replace K := Lib.hid (Keep.trans K.out (PD.out.since_left hkn)); clear hsn hkn)
        | (go_at_call 30; refine (L2.out _ PN.out.ref (Nat.le_trans hn K.out.size)).mono ?_; rintro e wm ⟨rfl, ⟨v2, hrn⟩, hkn⟩; replace hkn := Keep.mono hkn (F' := fun k => k = q ∨ v.ownBlock = some k) (fun i hi => by first | exact hi | exact .inl hi); have PM := Lib.hid (PN.out.right hrn hkn); replace K := Lib.hid (Keep.trans K.out (PN.out.since_right hkn)); replace KC := Lib.hid (KC.out.keep hkn (box_far HQL.out HV.out)); clear hrn hkn))
    all_goals go_wp2_with fail
    all_goals go_ret
    all_goals exact ⟨rfl, ⟨⟨_, _, PM.out, HFE.out⟩, K.out⟩⟩
  · have hq2 : ((r + 4) % 4 == 2) = false ∧ ((r + 4) % 4 == 3) = false := by rcases hu with rfl | rfl <;> (rw [e2]; exact ⟨rfl, rfl⟩)
    obtain ⟨g2, g3⟩ := hq2
    have t1 : (s.find ay).1.1 = (s.find ay).1.1 := rfl
    obtain ⟨⟨fv, fb⟩, s', hfe⟩ : ∃ x s', s.find ay = (x, s') := ⟨_, _, rfl⟩
    have HFE := Lib.hid (show s'.few (k + 1) by have := find_few HF.out ay; rw [hfe] at this; exact this)
    have hfw := HF.out.mono (show k ≤ 999999 by omega)
    have L1 := fun (W : World) (h : IsSite W p s) => Lib.hid (hfe ▸ find_any h ay hfw)
    have L2 := fun (W : World) (h : RSite n W q v s) => Lib.hid (hfe ▸ rfind h ay hfw)
    have hb1 : (fv == fv) = true := by simp
    have hb2 : (fb == fb) = true := by simp
    clear e2 hu t1 hfe hfw
    go_enter Tryd.func20, Tryd.ntmps20
    go_wp2_with fail
    obtain ⟨wa, hwa⟩ : ∃ wa, w.alloc (.cells #[.int .i64 ax, .int .i64 ay, .int .i64 az] 34) = wa := ⟨_, rfl⟩
    rw [hwa] at HKA HBA ⊢
    have PA := Lib.hid (H.out.quiet (m := w.heap.size) (Since.of HKA.out) (Nat.le_refl _))
    have KC := Lib.hid (show BoxC w.heap.size ay az wa from ⟨(blk_cell HBA.out 1), (blk_cell HBA.out 2)⟩)
    ((with_reducible refine (L1 _ PA.out.site).out.mono ?_); rintro e wn ⟨rfl, hsn, hkn⟩)
    have PN := Lib.hid (PA.out.left hsn hkn)
    have KN := Lib.hid (KC.out.keep hkn (by omega))
    have SN := Lib.hid (show Since n w wn from Keep.trans (Since.of HKA.out) (PA.out.since_left hkn))
    clear hsn hkn hwa e1
    obtain ⟨d1, d2⟩ := KN.out
    go_wp2_with fail
    ((with_reducible refine (L2 _ PN.out.ref).out.mono ?_); rintro e wm ⟨rfl, hrm, hkm⟩)
    have hkm' := Keep.mono hkm (F' := fun k => k = q ∨ v.ownBlock = some k) (fun i hi => .inl hi)
    have PM := Lib.hid (PN.out.right hrm hkm')
    have SM := Lib.hid (Keep.trans SN.out (PN.out.since_right hkm'))
    clear hrm hkm hkm' d1 d2
    go_wp2_with fail
    go_ret
    exact ⟨rfl, ⟨⟨_, _, PM.out, HFE.out⟩, SM.out⟩⟩
end Go.Proofs.YtdfmmgepapiamaaDoor
