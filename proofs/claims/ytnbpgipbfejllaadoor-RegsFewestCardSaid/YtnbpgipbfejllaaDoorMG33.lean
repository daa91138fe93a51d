/- regs: Spans (the program's). -/
import Derived.Test.YtnbpgipbfejllaaDoorMG31
import Derived.Laws.Bits64b
import Derived.Laws.Shifts
import Derived.Shelf.Spec.TrailingZeros
import Derived.Test.YtnbpgipbfejllaaDoorProg
import Derived.Laws.Bits64
namespace Go.Proofs.YtnbpgipbfejllaaDoor
open Go.RowKit Go.Lib
set_option linter.unusedVariables false
set_option linter.unusedSimpArgs false

/-- regs.none as it lies. -/
def NB (w : World) : Prop := ∃ t fr, w.heap[0]? = some (.cells #[.int .i64 (-1), .int .i64 (-1)] t fr)
theorem NB.pos {w : World} (h : NB w) : 0 < w.heap.size := let ⟨_, _, h⟩ := h; blk_lt' h
theorem NB.keep {F : Nat → Prop} {w w' : World} (h : NB w) (hk : Keep F w w') (h0 : ¬ F 0) : NB w' := let ⟨t, fr, h⟩ := h; ⟨t, fr, (hk.block 0 (blk_lt' h) h0).trans h⟩
theorem NB.since {n : Nat} {w w' : World} (h : NB w) (hk : Since n w w') (hn : 0 < n) : NB w' := h.keep hk (by omega)
theorem cell_at {w : World} {b : Nat} {cs : Array Value} {t : TypeId} {fr : Nat × Nat} (h : w.heap[b]? = some (.cells cs t fr)) (i : Nat) : w.cell? ⟨b, i, none⟩ = cs[i]? := by
  unfold World.cell?
  simp only [h]
  rfl
theorem NB.c0 {w : World} (h : NB w) : w.cell? ⟨0, 0, none⟩ = some (.int .i64 (-1)) := let ⟨_, _, h⟩ := h; (cell_at h 0).trans rfl
theorem NB.c1 {w : World} (h : NB w) : w.cell? ⟨0, 1, none⟩ = some (.int .i64 (-1)) := let ⟨_, _, h⟩ := h; (cell_at h 1).trans rfl
/-- Rows of pairs. -/
def row2 : List (Int × Int) → List Value
  | [] => []
  | p :: l => .int .i64 p.1 :: .int .i64 p.2 :: row2 l
theorem row2_len : ∀ l : List (Int × Int), (row2 l).length = l.length * 2
  | [] => rfl
  | p :: l => by simp [row2, row2_len l]; omega
theorem row2_set : ∀ (l : List (Int × Int)) (k : Nat) (x y : Int), ((row2 l).set (k * 2) (.int .i64 x)).set (k * 2 + 1) (.int .i64 y) = row2 (l.set k (x, y))
  | [], _, _, _ => by simp [row2]
  | p :: l, 0, x, y => rfl
  | p :: l, k + 1, x, y => by
    rw [show (k + 1) * 2 = k * 2 + 1 + 1 by omega]
    show .int .i64 p.1 :: .int .i64 p.2 :: ((row2 l).set (k * 2) (.int .i64 x)).set (k * 2 + 1) (.int .i64 y) = .int .i64 p.1 :: .int .i64 p.2 :: row2 (l.set k (x, y))
    rw [row2_set l k x y]
theorem row2_at : ∀ (l : List (Int × Int)) (k : Nat), k < l.length → (row2 l)[k * 2]? = some (.int .i64 (l.getD k (0, 0)).1) ∧ (row2 l)[k * 2 + 1]? = some (.int .i64 (l.getD k (0, 0)).2)
  | [], _, h => by simp at h
  | p :: l, 0, _ => ⟨rfl, rfl⟩
  | p :: l, k + 1, h => by
    rw [show (k + 1) * 2 = k * 2 + 1 + 1 by omega]
    exact row2_at l k (by simpa using h)
theorem row2_zero : ∀ n : Nat, row2 (List.replicate n (0, 0)) = List.replicate (n * 2) (.int .i64 0)
  | 0 => rfl
  | n + 1 => by rw [List.replicate_succ, row2, row2_zero n, show (n + 1) * 2 = n * 2 + 1 + 1 by omega, List.replicate_succ, List.replicate_succ]
theorem made_row2 (n : Nat) : madeCells #[.int .i64 0, .int .i64 0] (n * 2) = (row2 (List.replicate n (0, 0))).toArray := by
  rw [row2_zero]
  apply Array.ext'
  rw [List.toList_toArray]
  unfold madeCells
  apply List.ext_getElem?
  intro i
  by_cases hi : i < n * 2
  · rw [List.getElem?_replicate]
    simp only [Array.toList_map, Array.toList_range, List.getElem?_map, List.getElem?_range hi, Option.map_some, if_pos hi]
    congr 1
    have h2 : i % 2 = 0 ∨ i % 2 = 1 := by omega
    rcases h2 with h2 | h2 <;> simp [h2]
  · rw [List.getElem?_replicate, if_neg hi]
    simp
    omega
theorem make_spans (n : Nat) (hn : n ≤ 1000000) (W : World) : (Instr.makeSlice 41 (.int .i64 (n : Int)) (.int .i64 (n : Int))).run Tryd.prog W = .ok (.slice (some ⟨W.heap.size, 0, none⟩) n n) (W.alloc (.cells (row2 (List.replicate n (0, 0))).toArray 34)) := by
  obtain ⟨i, hi, hzz⟩ := Option.map_eq_some_iff.1 (show (Tryd.prog.info? 34).map (fun i => (i.zero, i.size, i.bytes)) = some (some (.agg #[.int .i64 0, .int .i64 0]), 2, 16) by kernel_rfl)
  simp only [Prod.mk.injEq] at hzz
  obtain ⟨hz, hs, hb⟩ := hzz
  have hr := run_make (P := Tryd.prog) W 41 34 i (.agg #[.int .i64 0, .int .i64 0]) (by kernel_rfl) hi hz .i64 .i64 n n (by omega) (Int.le_refl _) (by rw [hb]; omega) (by omega)
  simp only [Int.toNat_natCast, hs] at hr
  rw [hr]
  rw [show (Value.agg #[.int .i64 0, .int .i64 0]).cells = #[.int .i64 0, .int .i64 0] from rfl, made_row2]
/-- The span of an instruction. -/
def TR.span (T : TR) (k : Nat) : Int × Int :=
  if (T.at_ k).op = 1 then ((k : Int), (T.ins.length : Int) - 1)
  else if (T.usesTo k T.ins.length).length = 0 then (-1, -1)
  else if (T.at_ k).once then (0, (T.ins.length : Int) - 1)
  else ((k : Int), (((T.usesTo k T.ins.length).getD ((T.usesTo k T.ins.length).length - 1) 0 : Nat) : Int))
def TR.spans (T : TR) : List (Int × Int) := (List.range T.ins.length).map T.span
/-- The first k spans, and nothing behind. -/
def TR.spansTo (T : TR) (k : Nat) : List (Int × Int) := (List.range T.ins.length).map fun j => if j < k then T.span j else (0, 0)
theorem spansTo_zero (T : TR) : T.spansTo 0 = List.replicate T.ins.length (0, 0) := by
  unfold TR.spansTo
  simp only [Nat.not_lt_zero, if_false]
  rw [List.map_const', List.length_range]
theorem spansTo_end (T : TR) : T.spansTo T.ins.length = T.spans := by
  unfold TR.spansTo TR.spans
  exact List.map_congr_left (fun j hj => if_pos (by simpa using hj))
theorem spansTo_len (T : TR) (k : Nat) : (T.spansTo k).length = T.ins.length := by unfold TR.spansTo; simp
theorem spansTo_set (T : TR) (k : Nat) (hk : k < T.ins.length) : (T.spansTo k).set k (T.span k) = T.spansTo (k + 1) := by
  apply List.ext_getElem?
  intro i
  unfold TR.spansTo
  by_cases hi : i < T.ins.length
  · by_cases hik : k = i
    · subst hik
      rw [List.getElem?_set_self (by simpa using hi)]
      simp [hi]
    · rw [List.getElem?_set_ne hik]
      simp only [List.getElem?_map, List.getElem?_range hi, Option.map_some]
      by_cases h1 : i < k
      · rw [if_pos h1, if_pos (by omega)]
      · rw [if_neg h1, if_neg (by omega)]
  · rw [List.getElem?_eq_none (by simp; omega), List.getElem?_eq_none (by simp; omega)]
theorem nats_last {w : World} {A : Option Addr} {L : Nat} {l : List Nat} (h : IntsAt w A L (nats l)) (h0 : 0 < L) : ∃ b o, A = some ⟨b, o, none⟩ ∧ w.cell? ⟨b, o + (L - 1), none⟩ = some (.int .i64 ((l.getD (L - 1) 0 : Nat) : Int)) := by
  obtain ⟨b, o, e, x0⟩ := h.at_ (L - 1) (by omega)
  refine ⟨b, o, e, x0.trans ?_⟩
  have hl := h.length
  have hl2 : l.length = L := by unfold nats at hl; simpa using hl
  unfold nats
  simp only [List.getD_eq_getElem?_getD, List.getElem?_map]
  rw [List.getElem?_eq_getElem (show L - 1 < l.length by omega)]
  rfl
section
variable {w w' : World} {A : Option Addr} {ca : Nat} {E : Option Addr} {ce : Nat} {R : List RI} {X : List RX} {T : TR}
theorem keep_pair {W : World} {gs i : Nat} {x y : Value} : Keep (fun b => b = gs) W ((W.setCell ⟨gs, i, none⟩ x).setCell ⟨gs, i + 1, none⟩ y) := keep_set (keep_set (Keep.refl _ W) i x) (i + 1) y
theorem put_span {W : World} {gs k : Nat} {t : TypeId} (hk : k < T.ins.length) {x y : Int} (hs : T.span k = (x, y)) (h : W.heap[gs]? = some (.cells (row2 (T.spansTo k)).toArray t (0, 0))) : ((W.setCell ⟨gs, k * 2, none⟩ (.int .i64 x)).setCell ⟨gs, k * 2 + 1, none⟩ (.int .i64 y)).heap[gs]? = some (.cells (row2 (T.spansTo (k + 1))).toArray t (0, 0)) := by
  have h5 := blk_set (blk_set h (k * 2) (.int .i64 x)) (k * 2 + 1) (.int .i64 y)
  simp only [List.setIfInBounds_toArray] at h5
  rw [row2_set, ← hs, spansTo_set T k hk] at h5
  exact h5
theorem TA.keept {F : Nat → Prop} (h : TA w A ca E ce R X T) (hk : Keep F w w') (hn : ∀ g cur t, t ≠ 34 → w.heap[g]? = some (.cells cur t (0, 0)) → ¬ F g) : TA w' A ca E ce R X T :=
  ⟨h.lieR.keep hk (fun g cur hg => hn g cur _ (by decide) hg), h.lieX.keep hk (fun g cur hg => hn g cur _ (by decide) hg), fun r hr => (h.fitR r hr).keep hk (fun g cur hg => hn g cur _ (by decide) hg) (fun g cur hg => hn g cur _ (by decide) hg), fun r hr => (h.fitX r hr).keep hk (fun g cur hg => hn g cur _ (by decide) hg) (fun g cur hg => hn g cur _ (by decide) hg), h.ins, h.exits, h.offA, h.offE⟩
set_option maxRecDepth 100000 in
set_option maxHeartbeats 16000000 in
theorem spans_any {P : Nat} (h : TA w A ca E ce R X T) (hr : RightT P T) (hn : NB w) : Calls Tryd.prog 15 #[trV A ca E ce T] w fun e w' => ∃ g, e = .returned (.slice (some ⟨g, 0, none⟩) T.ins.length T.ins.length) ∧ w'.heap[g]? = some (.cells (row2 T.spans).toArray 34 (0, 0)) ∧ w.heap.size ≤ g ∧ Since w.heap.size w w' := by
  have HR := Lib.hid hr
  have HNB := Lib.hid hn
  have HK := Lib.hid ((Keep.refl (fun _ => False) w).alloc' (.cells #[.int .i64 T.pf, .int .i64 T.pl, .slice A T.ins.length ca, .slice E T.exits.length ce] 31))
  have HT := Lib.hid (h.quiet HK.out)
  have HB := Lib.hid (heap_alloc_new w (.cells #[.int .i64 T.pf, .int .i64 T.pl, .slice A T.ins.length ca, .slice E T.exits.length ce] 31))
  have HGR := Lib.hid (fun W (hW : TA W A ca E ce R X T) => gright_any hW hr)
  have HGU := Lib.hid (fun (k : Nat) W (hW : TA W A ca E ce R X T) => guses_any hW hr k)
  have hfew := hr.few
  have hpar := hr.par
  obtain ⟨N, hN⟩ : ∃ N, T.ins.length = N := ⟨_, rfl⟩
  obtain ⟨M, hM⟩ : ∃ M, T.exits.length = M := ⟨_, rfl⟩
  have HN := Lib.hid hN
  have HMM := Lib.hid hM
  unfold trV at HGR HGU ⊢
  rw [hN] at hfew hpar
  rw [hN, hM] at HK HB HT HGR
  rw [hM] at HGU
  rw [hN, hM]
  have hmk := fun W : World => make_spans N (by omega) W
  clear h hr hn hN hM
  go_enter Tryd.func15, Tryd.ntmps15
  go_upto_region 1 with (fail)
  obtain ⟨w1, hw1⟩ : ∃ w1 : World, w.alloc (.cells #[.int .i64 T.pf, .int .i64 T.pl, .slice A N ca, .slice E M ce] 31) = w1 := ⟨_, rfl⟩
  have HSZ := Lib.hid (show w1.heap.size = w.heap.size + 1 by rw [← hw1]; simp)
  obtain ⟨q, hq⟩ : ∃ q, w.heap.size = q := ⟨_, rfl⟩
  rw [hw1] at HB HK HT
  rw [hq] at HB HSZ
  rw [hw1, hq]
  have HQ := Lib.hid hq
  clear hw1 hq
  have d0 := (blk_cell HB.out 0).trans rfl
  have d1 := (blk_cell HB.out 1).trans rfl
  have d2 := (blk_cell HB.out 2).trans rfl
  have d3 := (blk_cell HB.out 3).trans rfl
  go_wp2_with fail
  ((with_reducible refine (HGR.out _ HT.out).mono ?_); rintro ee w2 ⟨rfl, hk2⟩)
  have HK2 := Lib.hid hk2
  have b2 := (hk2.block q (by have := HSZ.out; omega) (by have := HSZ.out; omega)).trans HB.out
  have d2 := (blk_cell b2 2).trans rfl
  have HB2 := Lib.hid b2
  have HT2 := Lib.hid (HT.out.since hk2)
  clear hk2 d0 d1 d3 b2
  go_upto_region 5 with (fail)
  have HKA := Lib.hid ((Keep.refl (fun _ => False) w2).alloc' (.cells (row2 (List.replicate N (0, 0))).toArray 34))
  have HBS := Lib.hid (heap_alloc_new w2 (.cells (row2 (List.replicate N (0, 0))).toArray 34))
  obtain ⟨w3, hw3⟩ : ∃ W : World, w2.alloc (.cells (row2 (List.replicate N (0, 0))).toArray 34) = W := ⟨_, rfl⟩
  obtain ⟨gs, hgs⟩ : ∃ g, w2.heap.size = g := ⟨_, rfl⟩
  rw [hw3] at HKA HBS
  rw [hgs] at HBS
  rw [hw3, hgs]
  have HGS := Lib.hid (show q < gs from by have h1 := HK2.out.size; have := HSZ.out; omega)
  have HB3 := Lib.hid ((HKA.out.block q (blk_lt' HB2.out) id).trans HB2.out)
  have HS3 := Lib.hid (show gs < w3.heap.size from blk_lt' HBS.out)
  have HK3 := Lib.hid (show Since w.heap.size w w3 from Keep.trans (Since.of HK.out) (Keep.trans (Since.mono HK2.out (by have := HSZ.out; have := HQ.out; omega)) (Since.of HKA.out)))
  have HT3 := Lib.hid (HT2.out.quiet HKA.out)
  clear hw3 hgs d2
  rw [← HN.out, ← spansTo_zero] at HBS
  have d2 := (blk_cell HB3.out 2).trans rfl
  go_wp2_with fail
  clear d2
  go_loopw [5, 6, 7, 22] (fun _ _ _ i wr => ∃ k : Nat, k ≤ N ∧ i = .int .i64 (k : Int) ∧ Hid (Keep (fun b => b = gs ∨ w3.heap.size ≤ b) w3 wr ∧ wr.heap[gs]? = some (.cells (row2 (T.spansTo k)).toArray 34 (0, 0)))) (fun _ _ _ i _ => N + 1 - (RowKit.intOf i).toNat)
  case atStart => exact ⟨0, Nat.zero_le _, rfl, Lib.hid ⟨Keep.refl _ _, HBS.out⟩⟩
  case round =>
    obtain ⟨k, hk, rfl, HW⟩ := hrel
    obtain ⟨wo, rfl⟩ : ∃ wo : World, wo = wr := ⟨_, rfl⟩
    by_cases hlt : k < N
    · have hb1 : decide (k < N) = true := by simpa using hlt
      have HKL := Lib.hid (show k < T.ins.length by rw [HN.out]; exact hlt)
      have HTo := Lib.hid (TA.keept HT3.out HW.out.1 (fun g cur t ht hg e => by
        rcases e with e | e
        · subst e; rw [HBS.out] at hg; injection hg with hg; injection hg with _ hg; exact ht hg.symm
        · have := blk_lt hg; omega))
      obtain ⟨g, rfl, _, hx, hm, hc⟩ := HTo.out.cellsI HKL.out
      obtain ⟨r, hrr⟩ : ∃ r, R.getD k RI.dflt = r := ⟨_, rfl⟩
      rw [hrr] at hx hc
      obtain ⟨⟨op, a, b, c, nn, args, kk, kn, ks, names, pf, pl, ex, once⟩, A2, ca2, N2, cn2⟩ := r
      have z0 : wo.cell? ⟨g, k * 14, none⟩ = some (.int .i64 op) := (hc 0 (by omega)).trans rfl
      have z1 : wo.cell? ⟨g, k * 14 + 1, none⟩ = some (.int .i64 a) := (hc 1 (by omega)).trans rfl
      have z2 : wo.cell? ⟨g, k * 14 + 2, none⟩ = some (.int .i64 b) := (hc 2 (by omega)).trans rfl
      have z3 : wo.cell? ⟨g, k * 14 + 3, none⟩ = some (.int .i64 c) := (hc 3 (by omega)).trans rfl
      have z4 : wo.cell? ⟨g, k * 14 + 4, none⟩ = some (.int .i64 nn) := (hc 4 (by omega)).trans rfl
      have z5 : wo.cell? ⟨g, k * 14 + 5, none⟩ = some (.slice A2 args.length ca2) := (hc 5 (by omega)).trans rfl
      have z6 : wo.cell? ⟨g, k * 14 + 6, none⟩ = some (.int .i64 kk) := (hc 6 (by omega)).trans rfl
      have z7 : wo.cell? ⟨g, k * 14 + 7, none⟩ = some (.int .i64 kn) := (hc 7 (by omega)).trans rfl
      have z8 : wo.cell? ⟨g, k * 14 + 8, none⟩ = some (.string (sb ks)) := (hc 8 (by omega)).trans rfl
      have z9 : wo.cell? ⟨g, k * 14 + 9, none⟩ = some (.slice N2 names.length cn2) := (hc 9 (by omega)).trans rfl
      have z10 : wo.cell? ⟨g, k * 14 + 10, none⟩ = some (.int .i64 pf) := (hc 10 (by omega)).trans rfl
      have z11 : wo.cell? ⟨g, k * 14 + 11, none⟩ = some (.int .i64 pl) := (hc 11 (by omega)).trans rfl
      have z12 : wo.cell? ⟨g, k * 14 + 12, none⟩ = some (.int .i64 ex) := (hc 12 (by omega)).trans rfl
      have z13 : wo.cell? ⟨g, k * 14 + 13, none⟩ = some (.bool once) := (hc 13 (by omega)).trans rfl
      have HX := Lib.hid hx
      clear hrr hm hc hx
      go_upto_region 8 with (fail)
      have hblk := heap_alloc_new wo (.cells #[.int .i64 op, .int .i64 a, .int .i64 b, .int .i64 c, .int .i64 nn, .slice A2 args.length ca2, .int .i64 kk, .int .i64 kn, .string (sb ks), .slice N2 names.length cn2, .int .i64 pf, .int .i64 pl, .int .i64 ex, .bool once] 60)
      have hK2 := (Keep.refl (fun _ => False) wo).alloc' (.cells #[.int .i64 op, .int .i64 a, .int .i64 b, .int .i64 c, .int .i64 nn, .slice A2 args.length ca2, .int .i64 kk, .int .i64 kn, .string (sb ks), .slice N2 names.length cn2, .int .i64 pf, .int .i64 pl, .int .i64 ex, .bool once] 60)
      obtain ⟨bi, hbi⟩ : ∃ bb, wo.heap.size = bb := ⟨_, rfl⟩
      obtain ⟨w5, hw5⟩ : ∃ w5 : World, wo.alloc (.cells #[.int .i64 op, .int .i64 a, .int .i64 b, .int .i64 c, .int .i64 nn, .slice A2 args.length ca2, .int .i64 kk, .int .i64 kn, .string (sb ks), .slice N2 names.length cn2, .int .i64 pf, .int .i64 pl, .int .i64 ex, .bool once] 60) = w5 := ⟨_, rfl⟩
      rw [hw5] at hblk hK2
      rw [hbi] at hblk
      rw [hw5, hbi]
      have HK5 := Lib.hid (Keep.trans HW.out.1 (Keep.mono hK2 (fun _ h => h.elim)))
      have HG5 := Lib.hid ((hK2.block gs (blk_lt' HW.out.2) id).trans HW.out.2)
      have HT5 := Lib.hid (HTo.out.quiet hK2)
      have HBI := Lib.hid hblk
      have hq5 := (HK5.out.block q (blk_lt' HB3.out) (by have := HGS.out; have := blk_lt' HB3.out; omega)).trans HB3.out
      have HQ5 := Lib.hid hq5
      have d0 := (blk_cell hq5 0).trans rfl
      have d1 := (blk_cell hq5 1).trans rfl
      have d2 := (blk_cell hq5 2).trans rfl
      have d3 := (blk_cell hq5 3).trans rfl
      have HUC := Lib.hid (HGU.out k _ HT5.out)
      rw [HN.out] at HUC
      clear hblk hK2 hbi hw5 hq5 z0 z1 z2 z3 z4 z5 z6 z7 z8 z9 z10 z11 z12 z13
      go_wp2_with fail
      ((with_reducible refine HUC.out.mono ?_); rintro ee w6 ⟨⟨Au, cu, rfl, hiu⟩, hk6⟩)
      have b5 := (hk6.block bi (blk_lt' HBI.out) (Nat.not_le_of_lt (blk_lt' HBI.out))).trans HBI.out
      have y0 := (blk_cell b5 0).trans rfl
      have y13 := (blk_cell b5 13).trans rfl
      have HGB := Lib.hid ((hk6.block gs (blk_lt' HG5.out) (Nat.not_le_of_lt (blk_lt' HG5.out))).trans HG5.out)
      have HKW := Lib.hid (show Keep (fun b => b = gs ∨ w3.heap.size ≤ b) w3 w6 from Keep.trans HK5.out (Keep.mono hk6 (fun b e => .inr (Nat.le_trans HK5.out.size e))))
      have hrl := row2_at (T.spansTo k) k (by rw [spansTo_len]; exact HKL.out)
      have g0 := (blk_cell HGB.out (k * 2)).trans (List.getElem?_toArray.trans hrl.1)
      have g1 := (blk_cell HGB.out (k * 2 + 1)).trans (List.getElem?_toArray.trans hrl.2)
      have f0 := blk_free HGB.out (k * 2)
      have f1 := blk_free HGB.out (k * 2 + 1)
      have HNW := Lib.hid (show NB w6 from (HNB.out.since HK3.out HNB.out.pos).keep HKW.out (by have := HNB.out.pos; have h1 := HK3.out.size; have := HGS.out; rintro (e | e) <;> omega))
      have n0 := HNW.out.c0
      have n1 := HNW.out.c1
      have HIU := Lib.hid hiu
      have HOP := Lib.hid (show (T.at_ k).op = op from by rw [← HX.out])
      have HON := Lib.hid (show (T.at_ k).once = once from by rw [← HX.out])
      obtain ⟨L, hL⟩ : ∃ L, (T.usesTo k N).length = L := ⟨_, rfl⟩
      have HLL := Lib.hid hL
      rw [hL] at HIU
      rw [hL]
      have hLN : L ≤ N := by rw [← hL]; exact usesTo_len T k N
      clear hL hrl b5 hk6 hiu HUC d0 d1 d2 d3
      by_cases h1 : op = 1
      · subst h1
        have e1 : (T.span k) = ((k : Int), (N : Int) - 1) := by unfold TR.span; rw [if_pos HOP.out, HN.out]
        have HE := Lib.hid e1
        clear e1
        go_wp2_with fail
        exact ⟨⟨k + 1, by omega, by go_num, Lib.hid ⟨Keep.trans HKW.out (Keep.mono keep_pair (fun _ => .inl)), put_span (x := (k : Int)) (y := (N : Int) - 1) HKL.out (HE.out) HGB.out⟩⟩, by simp [RowKit.intOf]; omega⟩
      · have b1 : (op == 1) = false := by simpa using h1
        have HO1 := Lib.hid (show ¬ (T.at_ k).op = 1 by rw [HOP.out]; exact h1)
        clear h1
        by_cases hL0 : L = 0
        · subst hL0
          have HE := Lib.hid (show T.span k = (-1, -1) by unfold TR.span; rw [if_neg HO1.out, HN.out, HLL.out]; rfl)
          go_wp2_with fail
          exact ⟨⟨k + 1, by omega, by go_num, Lib.hid ⟨Keep.trans HKW.out (Keep.mono keep_pair (fun _ => .inl)), put_span (x := -1) (y := -1) HKL.out (HE.out) HGB.out⟩⟩, by simp [RowKit.intOf]; omega⟩
        · have bL : (L == 0) = false := by simpa using hL0
          have HL0 := Lib.hid hL0
          cases once with
          | true =>
            have HE := Lib.hid (show T.span k = (0, (N : Int) - 1) by unfold TR.span; rw [if_neg HO1.out, HN.out, HLL.out, if_neg HL0.out, HON.out]; rfl)
            go_wp2_with fail
            exact ⟨⟨k + 1, by omega, by go_num, Lib.hid ⟨Keep.trans HKW.out (Keep.mono keep_pair (fun _ => .inl)), put_span (x := 0) (y := (N : Int) - 1) HKL.out (HE.out) HGB.out⟩⟩, by simp [RowKit.intOf]; omega⟩
          | false =>
            obtain ⟨bu, ou, rfl, u0⟩ := nats_last HIU.out (by omega)
            obtain ⟨lv, hlv⟩ : ∃ lv, (T.usesTo k N).getD (L - 1) 0 = lv := ⟨_, rfl⟩
            rw [hlv] at u0
            have HE := Lib.hid (show T.span k = ((k : Int), (lv : Int)) by unfold TR.span; rw [if_neg HO1.out, HN.out, HLL.out, if_neg HL0.out, HON.out, hlv]; rfl)
            clear hlv
            obtain ⟨L', rfl⟩ : ∃ L', L = L' + 1 := ⟨L - 1, by omega⟩
            rw [Nat.add_sub_cancel] at u0
            go_wp2_with fail
            exact ⟨⟨k + 1, by omega, by go_num, Lib.hid ⟨Keep.trans HKW.out (Keep.mono keep_pair (fun _ => .inl)), put_span (x := (k : Int)) (y := (lv : Int)) HKL.out (HE.out) HGB.out⟩⟩, by simp [RowKit.intOf]; omega⟩
    · have hb1 : decide (k < N) = false := by simpa using hlt
      obtain rfl : k = N := by omega
      go_wp2_with fail
      go_ret
      refine ⟨gs, rfl, ?_, ?_, ?_⟩
      · rw [← spansTo_end, HN.out]; exact HW.out.2
      · have := HGS.out; have := HQ.out; omega
      · exact Keep.trans HK3.out (Keep.mono HW.out.1 (fun b e => by have := HGS.out; have := HQ.out; have := HK3.out.size; rcases e with e | e <;> omega))
end
end Go.Proofs.YtnbpgipbfejllaaDoor
/- regs: conflict; sets of locations (the program's). -/
namespace Go.Proofs.YtnbpgipbfejllaaDoor
open Go.RowKit Go.Lib
set_option linter.unusedVariables false
set_option linter.unusedSimpArgs false

theorem eq_pair (a b c d : Int) (w : World) : (Op.equalIn 10000 34 (.agg #[.int .i64 a, .int .i64 b]) (.agg #[.int .i64 c, .int .i64 d])).run Tryd.prog w = .ok (a == c && b == d) w := by
  have u3 := Tryd.underlying3
  have a3 := Tryd.isAgg3
  have z3 := Tryd.sizeOf3
  rw [show (10000 : Nat) = 9999 + 1 from rfl, Op.equalIn]
  simp only [Sem.run_bind, run_underlying Tryd.underlying34, Result.andThen_ok]
  simp only [Std.Legacy.Range.forIn_eq_forIn_range', Std.Legacy.Range.size, Nat.sub_zero, Nat.add_sub_cancel, Nat.div_one, List.range'_succ, List.range'_zero, List.forIn_cons, List.forIn_nil]
  go_simp
  by_cases h1 : a = c <;> by_cases h2 : b = d <;> simp [h1, h2]
theorem run_max2 (a b : Int) (w : World) : (Builtin.max_ #[3, 3] 3 #[.int .i64 a, .int .i64 b]).run Tryd.prog w = .ok (.int .i64 (max a b)) w := by
  rw [run_max_int2]
  congr 2
  split <;> omega
theorem run_min2 (a b : Int) (w : World) : (Builtin.min_ #[3, 3] 3 #[.int .i64 a, .int .i64 b]).run Tryd.prog w = .ok (.int .i64 (min a b)) w := by
  rw [run_min_int2]
  congr 2
  split <;> omega
def confl (a b : Int × Int) : Bool := !(a == (-1, -1)) && (!(b == (-1, -1)) && decide (max a.1 b.1 < min a.2 b.2))
set_option maxRecDepth 100000 in
set_option maxHeartbeats 4000000 in
theorem conflict_any (a0 a1 b0 b1 : Int) {w : World} (hn : NB w) : Calls Tryd.prog 28 #[.agg #[.int .i64 a0, .int .i64 a1], .agg #[.int .i64 b0, .int .i64 b1]] w fun e w' => e = .returned (.bool (confl (a0, a1) (b0, b1))) ∧ Keep (fun _ => False) w w' := by
  have HK := Lib.hid (((Keep.refl (fun _ => False) w).alloc' (.cells #[.int .i64 a0, .int .i64 a1] 34)).alloc' (.cells #[.int .i64 b0, .int .i64 b1] 34))
  have hN := hn.keep HK.out id
  obtain ⟨hb1, hb2⟩ := @blk_two w (.cells #[.int .i64 a0, .int .i64 a1] 34) (.cells #[.int .i64 b0, .int .i64 b1] 34)
  have n0 := hN.c0
  have n1 := hN.c1
  have a0c := (blk_cell hb1 0).trans rfl
  have a1c := (blk_cell hb1 1).trans rfl
  have b0c := (blk_cell hb2 0).trans rfl
  have b1c := (blk_cell hb2 1).trans rfl
  clear hN hb1 hb2 hn
  unfold confl
  dsimp only
  have e1 := fun W => eq_pair a0 a1 (-1) (-1) W
  have e2 := fun W => eq_pair b0 b1 (-1) (-1) W
  have t1 : ((a0, a1) == ((-1 : Int), (-1 : Int))) = (a0 == -1 && a1 == -1) := rfl
  have t2 : ((b0, b1) == ((-1 : Int), (-1 : Int))) = (b0 == -1 && b1 == -1) := rfl
  rw [t1, t2]
  obtain ⟨ba, hba⟩ : ∃ b, (a0 == -1 && a1 == -1) = b := ⟨_, rfl⟩
  obtain ⟨bb, hbb⟩ : ∃ b, (b0 == -1 && b1 == -1) = b := ⟨_, rfl⟩
  obtain ⟨mx, hmx⟩ : ∃ m, max a0 b0 = m := ⟨_, rfl⟩
  obtain ⟨mn, hmn⟩ : ∃ m, min a1 b1 = m := ⟨_, rfl⟩
  have m1 : ∀ w, (Builtin.max_ #[3, 3] 3 #[.int .i64 a0, .int .i64 b0]).run Tryd.prog w = .ok (.int .i64 mx) w := by
    intro w
    rw [← hmx]
    exact run_max2 a0 b0 w
  have m2 : ∀ w, (Builtin.min_ #[3, 3] 3 #[.int .i64 a1, .int .i64 b1]).run Tryd.prog w = .ok (.int .i64 mn) w := by
    intro w
    rw [← hmn]
    exact run_min2 a1 b1 w
  rw [hba] at e1 ⊢
  rw [hbb] at e2 ⊢
  rw [hmx, hmn]
  clear hba hbb t1 t2 hmx hmn
  go_enter Tryd.func28, Tryd.ntmps28
  go_upto_region 1 with (fail)
  obtain ⟨w1, hw1⟩ : ∃ w1 : World, (w.alloc (.cells #[.int .i64 a0, .int .i64 a1] 34)).alloc (.cells #[.int .i64 b0, .int .i64 b1] 34) = w1 := ⟨_, rfl⟩
  obtain ⟨q, hq⟩ : ∃ q, w.heap.size = q := ⟨_, rfl⟩
  rw [hw1] at n0 n1 a0c a1c b0c b1c HK
  rw [hq] at a0c a1c b0c b1c
  rw [hw1, hq]
  clear hw1 hq
  cases ba with
  | true =>
    go_wp2_with fail
    go_ret
    exact ⟨rfl, HK.out⟩
  | false =>
    cases bb with
    | true =>
      go_wp2_with fail
      go_ret
      exact ⟨rfl, HK.out⟩
    | false =>
      go_wp2_with fail
      go_ret
      exact ⟨rfl, HK.out⟩
end Go.Proofs.YtnbpgipbfejllaaDoor
/- regs: sets of locations (the program's). -/
namespace Go.Proofs.YtnbpgipbfejllaaDoor
open Go.RowKit Go.Lib
set_option linter.unusedVariables false
set_option linter.unusedSimpArgs false

set_option maxRecDepth 100000 in
set_option maxHeartbeats 4000000 in
theorem tadd_any {w : World} {p x n : Nat} (hx : x < 18446744073709551616) (hn : n < 64) (h : w.heap[p]? = some (.cells #[.int .u64 (x : Nat), .int .u64 0, .int .u64 0, .int .u64 0] 71 (0, 0))) : Calls Tryd.prog 29 #[.pointer (some ⟨p, 0, none⟩), .int .i64 (n : Int)] w fun e w' => e = .returned (.tuple #[]) ∧ Keep (fun b => b = p) w w' ∧ w'.heap[p]? = some (.cells #[.int .u64 ((x ||| 2 ^ n : Nat) : Int), .int .u64 0, .int .u64 0, .int .u64 0] 71 (0, 0)) := by
  have HB := Lib.hid h
  clear h
  have hq0 : IntKind.i64.wrap ((n : Int) / 64) = 0 := by rw [show (n : Int) / 64 = 0 by omega]; rfl
  have hr1 : (n : Int).tmod 64 = (n : Int) := by rw [Int.tmod_eq_emod_of_nonneg (by omega)]; omega
  obtain ⟨y, hy⟩ : ∃ y : Nat, 2 ^ n = y := ⟨_, rfl⟩
  have hyl : y < 18446744073709551616 := by rw [← hy]; exact Nat.lt_of_lt_of_le (Nat.pow_lt_pow_right (by decide) hn) (by decide)
  have hwy : IntKind.u64.wrap ((2 : Int) ^ n) = (y : Int) := by
    rw [show ((2 : Int) ^ n) = ((2 ^ n : Nat) : Int) by simp, hy]
    simp [IntKind.wrap, IntKind.signed, IntKind.bits]
    omega
  have HWY := Lib.hid hwy
  clear hwy
  have HOR := Lib.hid (bits_or_u64_nat x y hx hyl)
  have HY := Lib.hid hy
  rw [hy]
  clear hy
  go_enter Tryd.func29, Tryd.ntmps29
  go_upto_region 0 with (fail)
  refine wp_region_drewU (S := (fun w' => Hid (w'.heap[p]? = some (.cells #[.int .u64 (x : Nat), .int .u64 0, .int .u64 0, .int .u64 0] 71 (0, 0))))) (D := [11, 12]) (by kernel_rfl) (by exact Lib.hid HB.out) (fun hH => ?_)
  have HBd := Lib.hid (show w.drew.heap[p]? = _ from HB.out)
  have HKD := Lib.hid (keep_draw (fun b => b = p) w)
  obtain ⟨wd, hwd⟩ : ∃ W : World, w.drew = W := ⟨_, rfl⟩
  rw [hwd] at hH HBd HKD ⊢
  clear hwd
  refine wpAnyU_take (i := 0) (v := ?_) rfl (by kernel_rfl) (by kernel_rfl) (by kernel_rfl) (by kernel_rfl) (fun _ _ _ h => h) (Or.inl ⟨by rfl, ?_⟩) hH ?_
  rotate_left
  · (intro w'' hSw; (try dsimp only at hSw); go_simp; try with_reducible rfl)
  change wpAnyU _ _ _ _ _ _ _ _ (Act.put _ (some 4) _) _
  try simp only [Act.put, List.setIfInBounds_toArray, List.set_cons_zero, List.set_cons_succ]
  refine wpAnyU_take (i := 1) (v := ?_) rfl (by kernel_rfl) (by kernel_rfl) (by kernel_rfl) (by kernel_rfl) (fun _ _ _ h => h) (Or.inl ⟨by rfl, ?_⟩) hH ?_
  rotate_left
  · (intro w'' hSw; (try dsimp only at hSw); go_simp; try with_reducible rfl)
  change wpAnyU _ _ _ _ _ _ _ _ (Act.put _ (some 5) _) _
  try simp only [Act.put, List.setIfInBounds_toArray, List.set_cons_zero, List.set_cons_succ]
  refine wpAnyU_take (i := 2) (v := ?_) rfl (by kernel_rfl) (by kernel_rfl) (by kernel_rfl) (by kernel_rfl) (fun _ _ _ h => h) (Or.inl ⟨by rfl, ?_⟩) hH ?_
  rotate_left
  · (intro w'' hSw; (try dsimp only at hSw); go_simp; try with_reducible rfl)
  change wpAnyU _ _ _ _ _ _ _ _ (Act.put _ (some 6) _) _
  try simp only [Act.put, List.setIfInBounds_toArray, List.set_cons_zero, List.set_cons_succ]
  refine wpAnyU_take (i := 3) (v := ?_) rfl (by kernel_rfl) (by kernel_rfl) (by kernel_rfl) (by kernel_rfl) (fun _ _ _ h => h) (Or.inl ⟨by rfl, ?_⟩) hH ?_
  rotate_left
  · (intro w'' hSw; (try dsimp only at hSw); go_simp; try with_reducible rfl)
  change wpAnyU _ _ _ _ _ _ _ _ (Act.put _ (some 7) _) _
  try simp only [Act.put, List.setIfInBounds_toArray, List.set_cons_zero, List.set_cons_succ]
  refine wpAnyU_take (i := 4) (v := ?_) rfl (by kernel_rfl) (by kernel_rfl) (by kernel_rfl) (by kernel_rfl) (fun _ _ _ h => h) (Or.inl ⟨by rfl, ?_⟩) hH ?_
  rotate_left
  · (intro w'' hSw; (try dsimp only at hSw); go_simp; try with_reducible rfl)
  change wpAnyU _ _ _ _ _ _ _ _ (Act.put _ (some 8) _) _
  try simp only [Act.put, List.setIfInBounds_toArray, List.set_cons_zero, List.set_cons_succ]
  refine wpAnyU_take (i := 5) (v := ?_) rfl (by kernel_rfl) (by kernel_rfl) (by kernel_rfl) (by kernel_rfl) (fun _ _ _ h => h) (Or.inl ⟨by rfl, ?_⟩) hH ?_
  rotate_left
  · (intro w'' hSw; have f0 := (blk_cell hSw.out 0).trans rfl; go_simp; try with_reducible rfl)
  change wpAnyU _ _ _ _ _ _ _ _ (Act.put _ (some 9) _) _
  try simp only [Act.put, List.setIfInBounds_toArray, List.set_cons_zero, List.set_cons_succ]
  refine wpAnyU_take (i := 6) (v := ?_) rfl (by kernel_rfl) (by kernel_rfl) (by kernel_rfl) (by kernel_rfl) (fun _ _ _ h => h) (Or.inl ⟨by rfl, ?_⟩) hH ?_
  rotate_left
  · (intro w'' hSw; (try dsimp only at hSw); go_simp; try with_reducible rfl)
  change wpAnyU _ _ _ _ _ _ _ _ (Act.put _ (some 10) _) _
  try simp only [Act.put, List.setIfInBounds_toArray, List.set_cons_zero, List.set_cons_succ]
  refine wpAnyU_take (i := 7) (v := ?_) rfl (by kernel_rfl) (by kernel_rfl) (by kernel_rfl) (by kernel_rfl) (fun _ _ _ h => h) (Or.inl ⟨by rfl, ?_⟩) hH ?_
  rotate_left
  · (intro w'' hSw; (try dsimp only at hSw); go_simp; try with_reducible rfl)
  change wpAnyU _ _ _ _ _ _ _ _ (Act.put _ (some 11) _) _
  try simp only [Act.put, List.setIfInBounds_toArray, List.set_cons_zero, List.set_cons_succ]
  refine wpAnyU_take (i := 8) (v := ?_) rfl (by kernel_rfl) (by kernel_rfl) (by kernel_rfl) (by kernel_rfl) (fun _ _ _ h => h) (Or.inl ⟨by rfl, ?_⟩) hH ?_
  rotate_left
  · (intro w'' hSw; (try dsimp only at hSw); go_simp; try with_reducible rfl)
  change wpAnyU _ _ _ _ _ _ _ _ (Act.put _ (some 12) _) _
  try simp only [Act.put, List.setIfInBounds_toArray, List.set_cons_zero, List.set_cons_succ]
  refine wpAnyU_take (i := 9) (v := ?_) rfl (by kernel_rfl) (by kernel_rfl) (by kernel_rfl) (by kernel_rfl) (fun _ _ _ h => h) (Or.inl ⟨by rfl, ?_⟩) hH ?_
  rotate_left
  · (intro w'' hSw; (try dsimp only at hSw); go_simp; try with_reducible rfl)
  change wpAnyU _ _ _ _ _ _ _ _ (Act.put _ (some 13) _) _
  try simp only [Act.put, List.setIfInBounds_toArray, List.set_cons_zero, List.set_cons_succ]
  refine wpAnyU_ready (rs := [10]) (by kernel_rfl) (by simp) ?_
  refine AllReadyU.cons rfl (fun Kn hKn => ?_) AllReadyU.nil
  go_simp
  refine hKn.out _ _ ?_ (fun hH => ?_)
  · (exact hH)
  clear hKn Kn
  try simp only [Act.put, List.setIfInBounds_toArray, List.set_cons_zero, List.set_cons_succ]
  refine wpAnyU_pure (i := 11) (v := ?_) rfl (by kernel_rfl) (by kernel_rfl) (by kernel_rfl) (by rfl) (fun _ _ _ h => h) (Or.inl ⟨by rfl, ?_⟩) ?_
  rotate_left
  · (intro w'' _; go_simp; try with_reducible rfl)
  change wpAnyU _ _ _ _ _ _ _ _ (Act.put _ (some 15) _) _
  try simp only [Act.put, List.setIfInBounds_toArray, List.set_cons_zero, List.set_cons_succ]
  refine wpAnyU_ready (rs := [12]) (by kernel_rfl) (by simp) ?_
  refine AllReadyU.last rfl (by rfl) (fun Kn hKn => ?_) AllReadyU.nil
  go_simp
  have c0 := (blk_cell HBd.out 0).trans rfl
  have f0 := blk_free HBd.out 0
  go_simp
  refine hKn.out _ _ ?_
  clear hKn Kn
  try simp only [Act.put, List.setIfInBounds_toArray, List.set_cons_zero, List.set_cons_succ]
  refine wpAnyU_done (by kernel_rfl) ?_ _
  go_wp2_with fail
  refine bodyPost_end (results_none rfl _ _ _) rfl ?_
  refine ⟨rfl, Keep.trans HKD.out (keep_set (Keep.refl (fun b => b = p) wd) 0 _), ?_⟩
  rw [HWY.out, HOR.out]
  exact blk_set HBd.out 0 (.int .u64 ((x ||| y : Nat) : Int))
end Go.Proofs.YtnbpgipbfejllaaDoor
/- math/bits.TrailingZeros64 at this dump: laid by the shelf's plain mode. -/
namespace Go.Proofs
open Go.Shelf
def Tryd.lays729_ren : Go.Shelf.Ren := ⟨fun | 29 => 52 | n => n, fun | 22 => 69 | 25 => 133 | 54 => 132 | n => n, fun | n => n⟩
theorem Tryd.lays729 : Go.Proofs.Lays7.n29 Tryd.prog Tryd.lays729_ren := {
  mixed := by kernel_rfl
  f29 := Tryd.func52.trans (congrArg some (by kernel_rfl))
  t0 := Tryd.underlying0
  a0 := Tryd.isAgg0
  z0 := Tryd.sizeOf0
  v0 := Tryd.zeroValue0
  i0 := by kernel_rfl
  t3 := Tryd.underlying3
  a3 := Tryd.isAgg3
  z3 := Tryd.sizeOf3
  v3 := Tryd.zeroValue3
  i3 := by kernel_rfl
  t4 := Tryd.underlying4
  a4 := Tryd.isAgg4
  z4 := Tryd.sizeOf4
  v4 := Tryd.zeroValue4
  i4 := by kernel_rfl
  t5 := Tryd.underlying5
  a5 := Tryd.isAgg5
  z5 := Tryd.sizeOf5
  v5 := Tryd.zeroValue5
  i5 := by kernel_rfl
  t22 := Tryd.underlying69
  a22 := Tryd.isAgg69
  z22 := Tryd.sizeOf69
  v22 := Tryd.zeroValue69
  i22 := by kernel_rfl
  t25 := Tryd.underlying133
  a25 := Tryd.isAgg133
  z25 := Tryd.sizeOf133
  v25 := Tryd.zeroValue133
  i25 := by kernel_rfl
  t54 := Tryd.underlying132
  a54 := Tryd.isAgg132
  z54 := Tryd.sizeOf132
  g1 := by kernel_rfl }
open Go.RowKit Go.Lib in
theorem Tryd.tz64 (x : Nat) (hx : x < 18446744073709551616) (w : World) (hT : x ≠ 0 → TabAt 1 Lib.deBruijn64tab w) : Calls Tryd.prog 52 #[.int .u64 x] w fun e w' => e = .returned (.int .i64 (Lib.ctz 64 x)) ∧ w' = w := Any7.bits_TrailingZeros64 Tryd.lays729 x hx w hT
end Go.Proofs
/- regs: the least location that is free (the program's). -/
namespace Go.Proofs.YtnbpgipbfejllaaDoor
open Go.RowKit Go.Lib
set_option linter.unusedVariables false
set_option linter.unusedSimpArgs false

/-- math/bits.deBruijn64tab as it lies. -/
def TBW (w : World) : Prop := ∃ cs t fr, w.heap[1]? = some (.cells cs t fr) ∧ ∀ j, j < Lib.deBruijn64tab.length → cs[j]? = some (.int .u8 (Lib.deBruijn64tab.getD j 0))
theorem TBW.pos {w : World} (h : TBW w) : 1 < w.heap.size := let ⟨_, _, _, h, _⟩ := h; blk_lt' h
theorem TBW.keep {F : Nat → Prop} {w w' : World} (h : TBW w) (hk : Keep F w w') (h0 : ¬ F 1) : TBW w' := let ⟨cs, t, fr, h, hc⟩ := h; ⟨cs, t, fr, (hk.block 1 (blk_lt' h) h0).trans h, hc⟩
theorem TBW.since {n : Nat} {w w' : World} (h : TBW w) (hk : Since n w w') (hn : 1 < n) : TBW w' := h.keep hk (by omega)
theorem TBW.tab {w : World} (h : TBW w) : TabAt 1 Lib.deBruijn64tab w := fun j hj => let ⟨cs, t, fr, h, hc⟩ := h; (cell_at h j).trans (hc j hj)
theorem ctzFrom_bits : ∀ (f y : Nat), 0 < y → y < 2 ^ f → y.testBit (Lib.ctzFrom f y) = true ∧ (∀ i, i < Lib.ctzFrom f y → y.testBit i = false) ∧ Lib.ctzFrom f y < f
  | 0, y, h0, h => by simp at h; omega
  | f + 1, y, h0, h => by
    unfold Lib.ctzFrom
    by_cases h1 : y % 2 = 1
    · rw [if_pos h1]
      exact ⟨by rw [Nat.testBit_zero]; simpa using h1, fun i hi => absurd hi (Nat.not_lt_zero _), by omega⟩
    · rw [if_neg h1]
      obtain ⟨a, b, c⟩ := ctzFrom_bits f (y / 2) (by omega) (by rw [Nat.pow_succ] at h; omega)
      refine ⟨by rw [Nat.add_comm 1, Nat.testBit_succ]; exact a, fun i hi => ?_, by omega⟩
      cases i with
      | zero => rw [Nat.testBit_zero]; simpa using h1
      | succ i => rw [Nat.testBit_succ]; exact b i (by omega)
theorem ctz_le (y : Nat) (h : y < 2 ^ 64) : Lib.ctz 64 y ≤ 64 := by
  unfold Lib.ctz
  by_cases h0 : y = 0
  · rw [if_pos h0]; exact Nat.le_refl _
  · rw [if_neg h0]; exact Nat.le_of_lt (ctzFrom_bits 64 y (by omega) h).2.2
/-- The least bit that is not set. -/
theorem ctz_free (x c : Nat) (hx : x < 18446744073709551616) (hc : c < 64) (hf : x.testBit c = false) : x.testBit (Lib.ctz 64 (18446744073709551615 ^^^ x)) = false ∧ (∀ i, i < Lib.ctz 64 (18446744073709551615 ^^^ x) → x.testBit i = true) ∧ Lib.ctz 64 (18446744073709551615 ^^^ x) ≤ c := by
  have hb : ∀ i, i < 64 → (18446744073709551615 ^^^ x).testBit i = !x.testBit i := fun i hi => by
    rw [Nat.testBit_xor, show (18446744073709551615 : Nat) = 2 ^ 64 - 1 from rfl, Nat.testBit_two_pow_sub_one]
    simp [hi]
  have hlt : (18446744073709551615 ^^^ x) < 2 ^ 64 := Nat.xor_lt_two_pow (n := 64) (by omega) (by omega)
  have hne : (18446744073709551615 ^^^ x) ≠ 0 := fun e => by
    have := hb c hc
    rw [e, hf] at this
    simp at this
  unfold Lib.ctz
  rw [if_neg hne]
  obtain ⟨h1, h2, h3⟩ := ctzFrom_bits 64 _ (Nat.pos_of_ne_zero hne) hlt
  rw [hb _ h3] at h1
  refine ⟨by simpa using h1, fun i hi => ?_, ?_⟩
  · have := h2 i hi
    rw [hb i (by omega)] at this
    simpa using this
  · rcases Nat.lt_or_ge c (Lib.ctzFrom 64 (18446744073709551615 ^^^ x)) with h | h
    · have := h2 c h
      rw [hb c hc, hf] at this
      cases this
    · exact h
set_option maxRecDepth 100000 in
set_option maxHeartbeats 4000000 in
theorem tfree_any {w : World} {p x : Nat} (hx : x < 18446744073709551615) (ht : TBW w) (h : w.heap[p]? = some (.cells #[.int .u64 (x : Nat), .int .u64 0, .int .u64 0, .int .u64 0] 71 (0, 0))) : Calls Tryd.prog 30 #[.pointer (some ⟨p, 0, none⟩)] w fun e w' => e = .returned (.int .i64 (Lib.ctz 64 (18446744073709551615 ^^^ x))) ∧ Keep (fun _ => False) w w' := by
  have HB := Lib.hid h
  have HT := Lib.hid ht
  have hx1 : ((x : Int) == 18446744073709551615) = false := by simp; omega
  have c0 := (blk_cell h 0).trans rfl
  clear h ht
  go_enter Tryd.func30, Tryd.ntmps30
  go_wp2_with fail
  go_loopw [3, 4, 6] (fun _ _ i wr => i = .int .i64 0 ∧ Hid (w = wr)) (fun _ _ i _ => 1)
  case atStart => exact ⟨rfl, Lib.hid rfl⟩
  case round =>
    obtain ⟨rfl, HW⟩ := hrel
    obtain ⟨wo, rfl⟩ : ∃ wo : World, wo = wr := ⟨_, rfl⟩
    obtain rfl := HW.out
    go_wp2_with fail
    try go_quiet (fail)
    go_wp2_with fail
    have hxx : bits BinOp.xor IntKind.u64 IntKind.u64.max (x : Int) = ((18446744073709551615 ^^^ x : Nat) : Int) := bits_xor_u64_nat 18446744073709551615 x (by omega) (by omega)
    rw [hxx]
    refine (Tryd.tz64 (18446744073709551615 ^^^ x) (Nat.xor_lt_two_pow (n := 64) (by omega) (by omega)) (w.drewN nq) (fun _ => (HT.out.keep (keep_drewN (fun _ => False) w nq) id).tab)).mono ?_
    rintro ee w' ⟨rfl, rfl⟩
    go_wp2_with fail
    go_ret
    refine ⟨?_, keep_drewN _ _ _⟩
    have hc := ctz_le (18446744073709551615 ^^^ x) (Nat.xor_lt_two_pow (n := 64) (by omega) (by omega))
    simp
    unfold wrap64
    omega
end Go.Proofs.YtnbpgipbfejllaaDoor
/- regs: giving locations, plain. -/
namespace Go.Proofs.YtnbpgipbfejllaaDoor
open Go.RowKit Go.Lib
set_option linter.unusedVariables false
set_option linter.unusedSimpArgs false

/-- Which locations the first j instructions hold that conflict with instruction k, by bits. -/
def usedOf (S : List (Int × Int)) (loc : List Int) (k : Nat) : Nat → Nat
  | 0 => 0
  | j + 1 => if 0 ≤ loc.getD j (-1) ∧ confl (S.getD j (0, 0)) (S.getD k (0, 0)) = true then usedOf S loc k j ||| 2 ^ (loc.getD j (-1)).toNat else usedOf S loc k j
def lowFree (x : Nat) : Nat := Lib.ctz 64 (18446744073709551615 ^^^ x)
/-- Instruction k gets its location, if it is its turn. -/
def stepP (S : List (Int × Int)) (on : Nat → Bool) (n : Int) (b : Bool) (s : List Int × Int) (k : Nat) : List Int × Int :=
  if S.getD k (0, 0) = (-1, -1) ∨ on k ≠ b then s
  else (s.1.set k (lowFree (usedOf S s.1 k s.1.length) : Nat), max s.2 ((lowFree (usedOf S s.1 k s.1.length) : Nat) + 1 - n))
def runP (S : List (Int × Int)) (on : Nat → Bool) (n : Int) (b : Bool) (s : List Int × Int) : Nat → List Int × Int
  | 0 => s
  | k + 1 => stepP S on n b (runP S on n b s k) k
def allocP (S : List (Int × Int)) (on : Nat → Bool) (n : Int) (N : Nat) : List Int × Int := runP S on n false (runP S on n true (List.replicate N (-1), 0) N) N
/-- Has instruction j had its turn? (b: the first pass) -/
def hadTurn (on : Nat → Bool) (b : Bool) (k j : Nat) : Bool := if b then on j && decide (j < k) else on j || decide (j < k)
structure AInv (on : Nat → Bool) (N : Nat) (b : Bool) (k : Nat) (loc : List Int) : Prop where
  len : loc.length = N
  not : ∀ j, j < N → hadTurn on b k j = false → loc.getD j (-1) = -1
  low : ∀ j, -1 ≤ loc.getD j (-1)
  cnt : ∀ j, loc.getD j (-1) < (loc.countP (0 ≤ ·) : Nat)
theorem countP_set1 : ∀ (l : List Int) (k : Nat) (v : Int), k < l.length → l.getD k (-1) = -1 → 0 ≤ v → (l.set k v).countP (0 ≤ ·) = l.countP (0 ≤ ·) + 1
  | [], _, _, h, _, _ => by simp at h
  | a :: l, 0, v, _, h1, h2 => by
    have : a = -1 := h1
    subst this
    rw [List.set_cons_zero, List.countP_cons, List.countP_cons]
    simp [h2]
  | a :: l, k + 1, v, h, h1, h2 => by
    rw [List.set_cons_succ, List.countP_cons, List.countP_cons, countP_set1 l k v (by simpa using h) h1 h2]
    omega
theorem usedOf_bits (S : List (Int × Int)) (loc : List Int) (k : Nat) : ∀ (j i : Nat), (usedOf S loc k j).testBit i = true → ∃ m, m < j ∧ loc.getD m (-1) = (i : Int) ∧ confl (S.getD m (0, 0)) (S.getD k (0, 0)) = true
  | 0, i, h => by simp [usedOf] at h
  | j + 1, i, h => by
    unfold usedOf at h
    split at h
    · rename_i hc
      rw [Nat.testBit_or, Bool.or_eq_true] at h
      rcases h with h | h
      · obtain ⟨m, a, b⟩ := usedOf_bits S loc k j i h
        exact ⟨m, by omega, b⟩
      · rw [Nat.testBit_two_pow] at h
        have := of_decide_eq_true h
        exact ⟨j, by omega, by omega, hc.2⟩
    · obtain ⟨m, a, b⟩ := usedOf_bits S loc k j i h
      exact ⟨m, by omega, b⟩
theorem usedOf_has (S : List (Int × Int)) (loc : List Int) (k : Nat) : ∀ (j m : Nat), m < j → 0 ≤ loc.getD m (-1) → confl (S.getD m (0, 0)) (S.getD k (0, 0)) = true → (usedOf S loc k j).testBit (loc.getD m (-1)).toNat = true
  | 0, m, h, _, _ => by omega
  | j + 1, m, h, h0, hc => by
    unfold usedOf
    by_cases hm : m = j
    · subst hm
      rw [if_pos ⟨h0, hc⟩, Nat.testBit_or, Nat.testBit_two_pow_self, Bool.or_true]
    · have := usedOf_has S loc k j m (by omega) h0 hc
      split
      · rw [Nat.testBit_or, this, Bool.true_or]
      · exact this
theorem usedOf_lt (S : List (Int × Int)) (loc : List Int) (k : Nat) (h : ∀ j, loc.getD j (-1) < 60) : ∀ j, usedOf S loc k j < 2 ^ 60
  | 0 => by simp [usedOf]
  | j + 1 => by
    unfold usedOf
    split
    · exact Nat.or_lt_two_pow (usedOf_lt S loc k h j) (Nat.pow_lt_pow_right (by decide) (by have := h j; omega))
    · exact usedOf_lt S loc k h j
theorem AInv.lt60 {on : Nat → Bool} {N : Nat} {b : Bool} {k : Nat} {loc : List Int} (h : AInv on N b k loc) (hN : N ≤ 60) : ∀ j, loc.getD j (-1) < 60 := fun j => by
  have h1 := h.cnt j
  have h2 := List.countP_le_length (p := fun x : Int => decide (0 ≤ x)) (l := loc)
  have h3 := h.len
  omega
theorem AInv.free {on : Nat → Bool} {N : Nat} {b : Bool} {k : Nat} {loc : List Int} (h : AInv on N b k loc) (hN : N ≤ 60) (S : List (Int × Int)) (m j : Nat) : (usedOf S loc m j).testBit (lowFree (usedOf S loc m j)) = false ∧ (∀ i, i < lowFree (usedOf S loc m j) → (usedOf S loc m j).testBit i = true) ∧ lowFree (usedOf S loc m j) ≤ loc.countP (0 ≤ ·) := by
  have hc := List.countP_le_length (p := fun x : Int => decide (0 ≤ x)) (l := loc)
  have hl := h.len
  refine ctz_free _ _ (Nat.lt_trans (usedOf_lt S loc m (h.lt60 hN) j) (by decide)) (by omega) ?_
  cases ht : (usedOf S loc m j).testBit (loc.countP (0 ≤ ·)) with
  | false => rfl
  | true =>
    obtain ⟨i, _, e, _⟩ := usedOf_bits S loc m j _ ht
    have := h.cnt i
    omega
theorem AInv.skip {on : Nat → Bool} {N : Nat} {b : Bool} {k : Nat} {loc : List Int} (h : AInv on N b k loc) : AInv on N b (k + 1) loc :=
  ⟨h.len, fun j hj ht => h.not j hj (by
    unfold hadTurn at ht ⊢
    cases b with
    | true =>
      simp only [if_true] at ht ⊢
      cases ho : on j with
      | false => rfl
      | true => rw [ho] at ht; simp at ht ⊢; omega
    | false =>
      simp only [Bool.false_eq_true, if_false] at ht ⊢
      cases ho : on j with
      | true => rw [ho] at ht; simp at ht
      | false => rw [ho] at ht; simp at ht ⊢; omega), h.low, h.cnt⟩
theorem getD_set (l : List Int) (k j : Nat) (v : Int) : (l.set k v).getD j (-1) = if k = j ∧ k < l.length then v else l.getD j (-1) := by
  simp only [List.getD_eq_getElem?_getD, List.getElem?_set]
  by_cases h : k = j
  · subst h
    by_cases h2 : k < l.length
    · simp [h2]
    · simp [h2]
  · simp [h]
theorem AInv.put {on : Nat → Bool} {N : Nat} {b : Bool} {k : Nat} {loc : List Int} (h : AInv on N b k loc) (hk : k < N) (hon : on k = b) {v : Nat} (hv : v ≤ loc.countP (0 ≤ ·)) : AInv on N b (k + 1) (loc.set k (v : Int)) := by
  have hm : loc.getD k (-1) = -1 := h.not k hk (by unfold hadTurn; cases b <;> simp [hon])
  have hc := countP_set1 loc k (v : Int) (by rw [h.len]; exact hk) hm (by omega)
  have hs := h.skip
  refine ⟨by rw [List.length_set]; exact h.len, fun j hj ht => ?_, fun j => ?_, fun j => ?_⟩
  · rw [getD_set]
    by_cases e : k = j
    · subst e
      exfalso
      unfold hadTurn at ht
      cases b <;> simp [hon] at ht
    · rw [if_neg (fun h => e h.1)]
      exact hs.not j hj ht
  · rw [getD_set]
    split
    · omega
    · exact h.low j
  · rw [getD_set, hc]
    split
    · omega
    · have := h.cnt j; omega
theorem AInv.start (on : Nat → Bool) (N : Nat) : AInv on N true 0 (List.replicate N (-1)) := by
  have hg : ∀ j, (List.replicate N (-1 : Int)).getD j (-1) = -1 := fun j => by
    rw [List.getD_eq_getElem?_getD, List.getElem?_replicate]
    split <;> rfl
  exact ⟨by simp, fun j _ _ => hg j, fun j => by rw [hg j]; omega, fun j => by rw [hg j]; omega⟩
theorem AInv.second {on : Nat → Bool} {N : Nat} {loc : List Int} (h : AInv on N true N loc) : AInv on N false 0 loc :=
  ⟨h.len, fun j hj ht => h.not j hj (by
    unfold hadTurn at ht ⊢
    simp at ht
    simp [ht]), h.low, h.cnt⟩
theorem AInv.step {on : Nat → Bool} {N : Nat} {b : Bool} {k : Nat} {s : List Int × Int} (h : AInv on N b k s.1) (hN : N ≤ 60) (hk : k < N) (S : List (Int × Int)) (n : Int) : AInv on N b (k + 1) (stepP S on n b s k).1 := by
  unfold stepP
  split
  · exact h.skip
  · rename_i hc
    exact h.put hk (Classical.byContradiction fun e => hc (.inr e)) (h.free hN S k s.1.length).2.2
end Go.Proofs.YtnbpgipbfejllaaDoor
