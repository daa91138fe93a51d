/- graph: right fields (the reference's). -/
import Derived.Test.YtnbpgipbfejllaaDoorMG45a
import Derived.Test.YtnbpgipbfejllaaDoorMG45b
import Derived.Test.YtnbpgipbfejllaaDoorMG45c
import Derived.Test.YtnbpgipbfejllaaDoorMG45d
import Derived.Test.YtnbpgipbfejllaaDoorMG45e
import Derived.Test.YtnbpgipbfejllaaDoorMG29
import Derived.Test.YtnbpgipbfejllaaDoorMG47
import Derived.Deep.CutRange
import Derived.Deep.CutBlock
import Derived.Laws.OwnMore
namespace Go.Proofs.YtnbpgipbfejllaaDoor
open Go.RowKit Go.Lib
set_option linter.unusedVariables false

theorem rfields_any {w : World} {T : TR} {P k : Nat} (r : RI) (hf : r.Fits w) (hs : Shape T P k r.x) (hP : P ≤ 4) : Calls Tryd.prog 84 #[.agg r.cells.toArray] w fun e w' => e = .returned (.bool true) ∧ Since w.heap.size w w' := by
  obtain ⟨x, A2, ca2, N2, cn2⟩ := r
  dsimp only at hs
  cases hs with
  | param hk => exact rf_param hf (by omega)
  | const _ _ _ _ h => exact rf_const hf h
  | unary a n ex once h1 h2 h3 =>
    obtain rfl | rfl : n = 3 ∨ n = 4 := by omega
    · exact rf_unary3 hf
    · exact rf_unary4 hf
  | binary _ _ _ _ _ _ _ h _ => exact rf_binary hf h
  | guard _ _ _ _ _ h _ => exact rf_guard hf h
  | kind _ _ _ _ _ h _ => exact rf_kind hf h
  | shape _ _ _ _ _ => exact rf_shape hf
  | arr _ _ _ _ _ => exact rf_arr hf
  | bounds _ _ _ _ _ _ _ => exact rf_bounds hf
  | load _ _ _ _ h => exact rf_load hf h
  | store _ _ _ _ _ h => exact rf_store hf h
  | at_ _ _ _ _ _ => exact rf_at_ hf
  | put _ _ _ _ _ _ => exact rf_put hf
  | len _ _ _ => exact rf_len hf
  | bytes _ _ => exact rf_bytes hf
  | new => exact rf_new hf
  | fuel _ _ h _ => exact rf_fuel hf h
  | print _ _ _ h => exact rf_print hf h
  | loop _ _ _ => exact rf_loop hf
  | fin _ _ => exact rf_fin hf
end Go.Proofs.YtnbpgipbfejllaaDoor
/- graph: Right (the program's) finds nothing wrong with a right trace. -/
namespace Go.Proofs.YtnbpgipbfejllaaDoor
open Go.RowKit Go.Lib
set_option linter.unusedVariables false
set_option linter.unusedSimpArgs false

/-- The exits that the first instructions have. -/
def TR.exTo (T : TR) (k : Nat) (j : Int) : Bool := (List.range k).any fun i => decide (0 ≤ (T.at_ i).ex) && j == (T.at_ i).ex
theorem exTo_succ (T : TR) (k : Nat) : T.exTo (k + 1) = fun j => if 0 ≤ (T.at_ k).ex then j == (T.at_ k).ex || T.exTo k j else T.exTo k j := by
  funext j
  unfold TR.exTo
  rw [List.range_succ, List.any_append]
  by_cases h : 0 ≤ (T.at_ k).ex
  · simp [h, Bool.or_comm]
  · simp [h]
theorem exTo_free {P : Nat} {T : TR} (h : RightT P T) {k : Nat} (hk : k < T.ins.length) (h0 : 0 ≤ (T.at_ k).ex) : T.exTo k (T.at_ k).ex = false := by
  unfold TR.exTo
  rw [List.any_eq_false]
  intro i hi
  have hik : i < k := by simpa using hi
  simp only [Bool.and_eq_true, decide_eq_true_eq, beq_iff_eq, not_and]
  intro h1 h2
  have := h.good.inc i k hik hk h1 h0
  omega
section
variable {w w' : World} {A : Option Addr} {ca : Nat} {E : Option Addr} {ce : Nat} {R : List RI} {X : List RX} {T : TR}
set_option maxRecDepth 100000 in
set_option maxHeartbeats 8000000 in
theorem gright_any {P : Nat} (h : TA w A ca E ce R X T) (hr : RightT P T) : Calls Tryd.prog 24 #[trV A ca E ce T] w fun e w' => e = .returned (.int .i64 0) ∧ Since w.heap.size w w' := by
  have HR := Lib.hid hr
  have HP := Lib.hid hr.good.place
  have HK := Lib.hid ((Keep.refl (fun _ => False) w).alloc' (.cells #[.int .i64 T.pf, .int .i64 T.pl, .slice A T.ins.length ca, .slice E T.exits.length ce] 31))
  have HT := Lib.hid (h.quiet HK.out)
  have HB := Lib.hid (heap_alloc_new w (.cells #[.int .i64 T.pf, .int .i64 T.pl, .slice A T.ins.length ca, .slice E T.exits.length ce] 31))
  have hfew := hr.few
  have hxf := Nat.le_trans hr.good.few hr.few
  have hpar := hr.par
  obtain ⟨N, hN⟩ : ∃ N, T.ins.length = N := ⟨_, rfl⟩
  obtain ⟨M, hM⟩ : ∃ M, T.exits.length = M := ⟨_, rfl⟩
  have HN := Lib.hid hN
  have HMM := Lib.hid hM
  have hp1 : 0 ≤ T.pf := by rw [hr.good.place.1]; omega
  have hp2 : 0 ≤ T.pl := by rw [hr.good.place.2]; omega
  have HPA := Lib.hid (show ∀ W, TA W A ca E ce R X T → Calls Tryd.prog 45 #[.agg #[.int .i64 T.pf, .int .i64 T.pl, .slice A N ca, .slice E M ce]] W (fun e w' => e = .returned (.int .i64 (P : Int)) ∧ Keep (fun _ => False) W w') from fun W hW => by
    have h9 := gparams_any hW hr
    unfold trV at h9
    rw [hN, hM] at h9
    exact h9)
  unfold trV
  rw [hN, hM] at HK HB HT
  rw [hN] at hfew hpar
  rw [hM] at hxf
  rw [hN, hM]
  clear h hr hN hM
  have hn0 : (N == 0) = false := by simp; omega
  have hn1 : ((N : Int) == 0) = false := by simp; omega
  have hmm := @run_makeMap Tryd.prog
  go_enter Tryd.func24, Tryd.ntmps24
  go_upto_region 6 with (fail)
  have HMD := Lib.hid (FB.made (P := Tryd.prog) (k := 3) (e := 4) (w.alloc (.cells #[.int .i64 T.pf, .int .i64 T.pl, .slice A N ca, .slice E M ce] 31)))
  have HK2 := Lib.hid ((HK.out.alloc' (.map #[] 0)).alloc' (.cells #[.int .i64 T.pf, .int .i64 T.pl, .slice A N ca, .slice E M ce, .map (some (w.heap.size + 1))] 99))
  have HBC := Lib.hid (heap_alloc_new ((w.alloc (.cells #[.int .i64 T.pf, .int .i64 T.pl, .slice A N ca, .slice E M ce] 31)).alloc (.map #[] 0)) (.cells #[.int .i64 T.pf, .int .i64 T.pl, .slice A N ca, .slice E M ce, .map (some (w.heap.size + 1))] 99))
  have HBT := Lib.hid (alloc_old' (o' := .cells #[.int .i64 T.pf, .int .i64 T.pl, .slice A N ca, .slice E M ce, .map (some (w.heap.size + 1))] 99) (alloc_old' (o' := .map #[] 0) HB.out))
  have HM2 := Lib.hid (HMD.out.keep ((Keep.refl (fun _ => False) _).alloc' (.cells #[.int .i64 T.pf, .int .i64 T.pl, .slice A N ca, .slice E M ce, .map (some (w.heap.size + 1))] 99)) id)
  obtain ⟨w1, hw1⟩ : ∃ w1 : World, ((w.alloc (.cells #[.int .i64 T.pf, .int .i64 T.pl, .slice A N ca, .slice E M ce] 31)).alloc (.map #[] 0)).alloc (.cells #[.int .i64 T.pf, .int .i64 T.pl, .slice A N ca, .slice E M ce, .map (some (w.heap.size + 1))] 99) = w1 := ⟨_, rfl⟩
  have HT1 := Lib.hid (HT.out.quiet (((Keep.refl (fun _ => False) _).alloc' (.map #[] 0)).alloc' (.cells #[.int .i64 T.pf, .int .i64 T.pl, .slice A N ca, .slice E M ce, .map (some (w.heap.size + 1))] 99)))
  simp only [World.size_alloc] at HBC HMD HM2
  have HSZ := Lib.hid (show w1.heap.size = w.heap.size + 1 + 1 + 1 by rw [← hw1]; simp)
  rw [hw1] at HK2 HBC HBT HM2 HT1
  rw [hw1]
  obtain ⟨q, hq⟩ : ∃ q, w.heap.size = q := ⟨_, rfl⟩
  rw [hq] at HBC HBT HM2 HSZ
  rw [hq]
  have HQ := Lib.hid hq
  clear hw1 hq HB HK HT HMD hmm hn0 hn1
  have d0 := (blk_cell HBT.out 0).trans rfl
  have d1 := (blk_cell HBT.out 1).trans rfl
  have d2 := (blk_cell HBT.out 2).trans rfl
  have d3 := (blk_cell HBT.out 3).trans rfl
  go_wp2_with fail
  ((with_reducible refine (HPA.out _ HT1.out).mono ?_); rintro ee w2 ⟨rfl, hk2⟩)
  have HK3 := Lib.hid hk2
  have b2 := (hk2.block q (by have := HSZ.out; omega) id).trans HBT.out
  have d2 := (blk_cell b2 2).trans rfl
  clear hk2 b2 d0 d1 d3
  go_wp2_with fail
  go_loopw [5, 40] (fun _ i wr => ∃ k : Nat, k ≤ N ∧ i = .int .i64 (k : Int) ∧ Hid (Keep (fun b => b = q + 1 ∨ w1.heap.size ≤ b) w1 wr ∧ ∃ c, c ≤ k ∧ FB Tryd.prog 3 4 wr (q + 1) (T.exTo k) c)) (fun _ i _ => N + 1 - (RowKit.intOf i).toNat)
  case atStart =>
    refine ⟨0, Nat.zero_le _, rfl, Lib.hid ⟨Keep.mono HK3.out (fun _ h => h.elim), 0, Nat.le_refl _, ?_⟩⟩
    have h9 := HM2.out.keep HK3.out id
    exact h9
  case round =>
    obtain ⟨k, hk, rfl, HW⟩ := hrel
    obtain ⟨wo, rfl⟩ : ∃ wo : World, wo = wr := ⟨_, rfl⟩
    obtain ⟨hkw, cc, hcc, hfb⟩ := HW.out
    have hb2 := (hkw.block (q + 1 + 1) (by have := HSZ.out; omega) (by have := HSZ.out; omega)).trans HBC.out
    have e0 := (blk_cell hb2 0).trans rfl
    have e1 := (blk_cell hb2 1).trans rfl
    have e2 := (blk_cell hb2 2).trans rfl
    have e3 := (blk_cell hb2 3).trans rfl
    have e4 := (blk_cell hb2 4).trans rfl
    by_cases hlt : k < N
    · have hb1 : decide (k < N) = true := by simpa using hlt
      have hkl : k < T.ins.length := by rw [HN.out]; exact hlt
      obtain ⟨me, mc, hmo⟩ := fb_obj HM2.out
      have HTo := Lib.hid (HT1.out.keepm hkw (fun g cur t hg e => by
        rcases e with e | e
        · subst e; rw [hmo] at hg; cases hg
        · have := blk_lt hg; omega))
      have HIN := Lib.hid (gins_any HTo.out HR.out hkl hfb (fun h0 => exTo_free HR.out hkl h0) (by omega))
      unfold chkV at HIN
      rw [HN.out, HMM.out] at HIN
      rw [← exTo_succ] at HIN
      have HKW := Lib.hid hkw
      clear hkw hfb hb2 hmo
      go_wp2_with fail
      ((with_reducible refine HIN.out.mono ?_); rintro ee w3 ⟨rfl, hk3, c', hc', hf'⟩)
      have HN3 := Lib.hid (show Keep (fun b => b = q + 1 ∨ w1.heap.size ≤ b) w1 w3 ∧ ∃ c, c ≤ k + 1 ∧ FB Tryd.prog 3 4 w3 (q + 1) (T.exTo (k + 1)) c from ⟨Keep.trans HKW.out (Keep.mono hk3 (fun b e => by have := HKW.out.size; omega)), c', by omega, hf'⟩)
      clear hk3 hf' e0 e1 e2 e3 e4
      go_wp2_with fail
      exact ⟨⟨k + 1, by omega, by go_num, HN3⟩, by simp [RowKit.intOf]; omega⟩
    · have hb1 : decide (k < N) = false := by simpa using hlt
      have HKW := Lib.hid hkw
      clear hkw hfb hb2 e0 e1 e2 e3 e4
      go_wp2_with fail
      go_ret
      exact ⟨rfl, Keep.trans (Since.of HK2.out) (Keep.mono HKW.out (fun b e => by have := HSZ.out; have := HQ.out; omega))⟩
end
end Go.Proofs.YtnbpgipbfejllaaDoor
/- graph: right (the reference's). -/
namespace Go.Proofs.YtnbpgipbfejllaaDoor
open Go.RowKit Go.Lib
set_option linter.unusedVariables false
set_option linter.unusedSimpArgs false

theorem Tryd.bools1 : OneTy Tryd.prog 68 4 (.bool false) 1 := ⟨Tryd.underlying68, by kernel_rfl, rfl⟩
def boolsF (f : Int → Bool) (M : Nat) : List Value := (List.range M).map fun j : Nat => .bool (f (j : Int))
theorem made_boolsF (M : Nat) : madeCells #[.bool false] M = (boolsF (fun _ => false) M).toArray := by
  apply Array.toList_inj.1
  rw [toList_madeCells_one]
  simp [boolsF, List.map_const']
theorem boolsF_at (f : Int → Bool) {M j : Nat} (h : j < M) : (boolsF f M).toArray[j]? = some (.bool (f (j : Int))) := by
  simp [boolsF, h]
theorem boolsF_set (f : Int → Bool) (M x : Nat) : (boolsF f M).toArray.setIfInBounds x (.bool true) = (boolsF (fun j => j == (x : Int) || f j) M).toArray := by
  rw [List.setIfInBounds_toArray]
  congr 1
  apply List.ext_getElem?
  intro i
  unfold boolsF
  rw [List.getElem?_set, List.getElem?_map, List.getElem?_map]
  by_cases hx : x = i
  · subst hx
    by_cases hM : x < M
    · simp [hM]
    · simp [hM]
  · have : ¬ ((i : Int) = (x : Int)) := by omega
    by_cases hM : i < M
    · simp [hx, hM, this]
    · simp [hx, hM]
theorem Shape.exneg2 {T : TR} {P k : Nat} {x : TI} (h : Shape T P k x) (ho : x.ex < 0) : (leavesOp x.op == 2) = false := by
  cases h <;> first | rfl | (exfalso; dsimp only at ho; omega)
theorem Shape.expos2 {T : TR} {P k : Nat} {x : TI} (h : Shape T P k x) (ho : 0 ≤ x.ex) : (leavesOp x.op == 0) = false := by
  cases h <;> first | rfl | (exfalso; dsimp only at ho; omega)
theorem Shape.once2 {T : TR} {P k : Nat} {x : TI} (h : Shape T P k x) (ho : x.once = true) : repeatsOp x.op = true := by cases h <;> first | rfl | (exact Bool.noConfusion ho)
section
variable {w w' : World} {A : Option Addr} {ca : Nat} {E : Option Addr} {ce : Nat} {R : List RI} {X : List RX} {T : TR}
theorem TA.keepb {F : Nat → Prop} (h : TA w A ca E ce R X T) (hk : Keep F w w') (hn : ∀ g cur t, t ≠ 4 → w.heap[g]? = some (.cells cur t (0, 0)) → ¬ F g) : TA w' A ca E ce R X T :=
  ⟨h.lieR.keep hk (fun g cur hg => hn g cur _ (by decide) hg), h.lieX.keep hk (fun g cur hg => hn g cur _ (by decide) hg), fun r hr => (h.fitR r hr).keep hk (fun g cur hg => hn g cur _ (by decide) hg) (fun g cur hg => hn g cur _ (by decide) hg), fun r hr => (h.fitX r hr).keep hk (fun g cur hg => hn g cur _ (by decide) hg) (fun g cur hg => hn g cur _ (by decide) hg), h.ins, h.exits, h.offA, h.offE⟩
set_option maxRecDepth 100000 in
set_option maxHeartbeats 16000000 in
theorem rright0_any {P : Nat} (h : TA w A ca E ce R X T) (hr : RightT P T) : Calls Tryd.prog 53 #[trV A ca E ce T] w fun e w' => e = .returned (.bool true) ∧ Since w.heap.size w w' := by
  have HR := Lib.hid hr
  have HK := Lib.hid ((Keep.refl (fun _ => False) w).alloc' (.cells #[.int .i64 T.pf, .int .i64 T.pl, .slice A T.ins.length ca, .slice E T.exits.length ce] 31))
  have HT := Lib.hid (h.quiet HK.out)
  have HB := Lib.hid (heap_alloc_new w (.cells #[.int .i64 T.pf, .int .i64 T.pl, .slice A T.ins.length ca, .slice E T.exits.length ce] 31))
  have hfew := hr.few
  have hxf := Nat.le_trans hr.good.few hr.few
  have hpar := hr.par
  obtain ⟨N, hN⟩ : ∃ N, T.ins.length = N := ⟨_, rfl⟩
  obtain ⟨M, hM⟩ : ∃ M, T.exits.length = M := ⟨_, rfl⟩
  have HN := Lib.hid hN
  have HMM := Lib.hid hM
  have hp1 : decide (T.pf < 0) = false := by rw [hr.good.place.1]; decide
  have hp2 : decide (T.pl < 0) = false := by rw [hr.good.place.2]; decide
  have HPA := Lib.hid (show ∀ W, TA W A ca E ce R X T → Calls Tryd.prog 83 #[.agg #[.int .i64 T.pf, .int .i64 T.pl, .slice A N ca, .slice E M ce]] W (fun e w' => e = .returned (.int .i64 (P : Int)) ∧ Keep (fun _ => False) W w') from fun W hW => by
    have h9 := params_any hW hr
    unfold trV at h9
    rw [hN, hM] at h9
    exact h9)
  unfold trV
  rw [hN, hM] at HK HB HT
  rw [hN] at hfew hpar
  rw [hM] at hxf
  rw [hN, hM]
  clear h hr hN hM
  have hn0 : (N == 0) = false := by simp; omega
  have hn1 : ((N : Int) == 0) = false := by simp; omega
  have hmk : ∀ W : World, (Instr.makeSlice 68 (.int .i64 (M : Int)) (.int .i64 (M : Int))).run Tryd.prog W = .ok (.slice (some ⟨W.heap.size, 0, none⟩) M M) (W.alloc (.cells (madeCells #[.bool false] M) 4)) := fun W => run_make_row' 68 4 (.bool false) 1 Tryd.bools1.ht Tryd.bools1.info rfl .i64 .i64 M (by omega) (by omega) W
  go_enter Tryd.func53, Tryd.ntmps53
  go_upto_region 1 with (fail)
  obtain ⟨w1, hw1⟩ : ∃ W : World, w.alloc (.cells #[.int .i64 T.pf, .int .i64 T.pl, .slice A N ca, .slice E M ce] 31) = W := ⟨_, rfl⟩
  obtain ⟨q, hq⟩ : ∃ q, w.heap.size = q := ⟨_, rfl⟩
  rw [hw1] at HK HB HT
  rw [hq] at HB
  rw [hw1, hq]
  have HQ := Lib.hid hq
  clear hw1 hq
  have d0 := (blk_cell HB.out 0).trans rfl
  have d1 := (blk_cell HB.out 1).trans rfl
  have d2 := (blk_cell HB.out 2).trans rfl
  have d3 := (blk_cell HB.out 3).trans rfl
  go_wp2_with fail
  ((with_reducible refine (HPA.out _ HT.out).mono ?_); rintro ee w2 ⟨rfl, hk2⟩)
  have HK2 := Lib.hid (Keep.trans HK.out hk2)
  have hb2 := (hk2.block q (blk_lt HB.out) id).trans HB.out
  have HB2 := Lib.hid hb2
  have HT2 := Lib.hid (HT.out.quiet hk2)
  have d0 := (blk_cell hb2 0).trans rfl
  have d1 := (blk_cell hb2 1).trans rfl
  have d2 := (blk_cell hb2 2).trans rfl
  have d3 := (blk_cell hb2 3).trans rfl
  clear hk2 hb2 HK HT HPA
  go_upto_region 5 with (fail)
  have hk3 := (Keep.refl (fun _ => False) w2).alloc' (.cells (madeCells #[.bool false] M) 4)
  have hb4 := heap_alloc_new w2 (.cells (madeCells #[.bool false] M) 4)
  rw [made_boolsF] at hk3 hb4
  rw [made_boolsF]
  obtain ⟨w3, hw3⟩ : ∃ W : World, w2.alloc (.cells (boolsF (fun _ => false) M).toArray 4) = W := ⟨_, rfl⟩
  have HSZ3 := Lib.hid (show w3.heap.size = w2.heap.size + 1 by rw [← hw3]; simp)
  obtain ⟨t0, ht0⟩ : ∃ t0, w2.heap.size = t0 := ⟨_, rfl⟩
  rw [hw3] at hk3 hb4
  rw [ht0] at hb4 HSZ3
  rw [hw3, ht0]
  have HT0 := Lib.hid ht0
  have HK3 := Lib.hid (Keep.trans HK2.out hk3)
  have HT3 := Lib.hid (HT2.out.quiet hk3)
  have HB3 := Lib.hid ((hk3.block q (blk_lt HB2.out) id).trans HB2.out)
  have HB4 := Lib.hid hb4
  have hqt : q < t0 := by have := blk_lt HB2.out; omega
  clear hk3 hb4 hw3 ht0 HK2 HB HB2 HT2 hmk hn0 hn1 hp1 hp2 d0 d1 d2 d3
  go_wp2_with fail
  go_loopw [5] (fun i wr => ∃ k : Nat, k ≤ N ∧ i = .int .i64 (k : Int) ∧ Hid (Keep (fun b => b = t0 ∨ w3.heap.size ≤ b) w3 wr ∧ wr.heap[t0]? = some (.cells (boolsF (T.exTo k) M).toArray 4 (0, 0)))) (fun i _ => N + 1 - (RowKit.intOf i).toNat)
  case atStart => exact ⟨0, Nat.zero_le _, rfl, Lib.hid ⟨Keep.refl _ _, HB4.out⟩⟩
  case round =>
    obtain ⟨k, hk, rfl, HW⟩ := hrel
    obtain ⟨wo, rfl⟩ : ∃ wo : World, wo = wr := ⟨_, rfl⟩
    have HBO := Lib.hid ((HW.out.1.block q (blk_lt HB3.out) (by have := blk_lt HB3.out; omega)).trans HB3.out)
    have c1 := (blk_cell HBO.out 2).trans rfl
    by_cases hlt : k < N
    · have hb1 : decide (k < N) = true := by simpa using hlt
      have hkl : k < T.ins.length := by rw [HN.out]; exact hlt
      have HKL := Lib.hid hkl
      have HTo := Lib.hid (HT3.out.keepb HW.out.1 (fun g cur t ht hg e => by
        rcases e with e | e
        · subst e
          rw [HB4.out] at hg
          injection hg with hg
          injection hg with _ hg
          exact ht hg.symm
        · have := blk_lt hg; omega))
      have HSH := Lib.hid (HR.out.good.shape k hkl).1
      have HO1 := Lib.hid (HR.out.op1 hkl)
      have HLA := Lib.hid (HR.out.last k hkl)
      have HEX := Lib.hid (HR.out.good.exit k hkl)
      obtain ⟨g, rfl, _, hx, hm, hc⟩ := HTo.out.cellsI hkl
      have hft := HTo.out.fitR _ hm
      obtain ⟨r, hrr⟩ : ∃ r, R.getD k RI.dflt = r := ⟨_, rfl⟩
      rw [hrr] at hx hc hft
      rw [← hx] at HSH HO1 HLA HEX
      obtain ⟨⟨op, a, b, c, nn, args, kk, kn, ks, names, pf, pl, ex, once⟩, A2, ca2, N2, cn2⟩ := r
      dsimp only at HSH HO1 HLA HEX
      have hKN : ∀ j, j < T.ins.length → ∃ v, wo.cell? ⟨g, j * 14 + 7, none⟩ = some (.int .i64 v) ∧ v = (T.at_ j).kn := fun j hj => by
        obtain ⟨g', e', _, hx', _, hc'⟩ := HTo.out.cellsI hj
        obtain rfl : g = g' := by
          have := Option.some.inj e'
          injection this with a
        exact ⟨(T.at_ j).kn, by rw [← hx']; exact (hc' 7 (by omega)).trans rfl, rfl⟩
      have HKP := Lib.hid hKN
      clear hKN
      have z0 : wo.cell? ⟨g, k * 14, none⟩ = some (.int .i64 op) := (hc 0 (by omega)).trans rfl
      have z1 : wo.cell? ⟨g, k * 14 + 1, none⟩ = some (.int .i64 a) := (hc 1 (by omega)).trans rfl
      have z2 : wo.cell? ⟨g, k * 14 + 2, none⟩ = some (.int .i64 b) := (hc 2 (by omega)).trans rfl
      have z3 : wo.cell? ⟨g, k * 14 + 3, none⟩ = some (.int .i64 c) := (hc 3 (by omega)).trans rfl
      have z4 : wo.cell? ⟨g, k * 14 + 4, none⟩ = some (.int .i64 nn) := (hc 4 (by omega)).trans rfl
      have z5 : wo.cell? ⟨g, k * 14 + 5, none⟩ = some (.slice A2 args.length ca2) := (hc 5 (by omega)).trans rfl
      have z6 : wo.cell? ⟨g, k * 14 + 6, none⟩ = some (.int .i64 kk) := (hc 6 (by omega)).trans rfl
      have z7 : wo.cell? ⟨g, k * 14 + 7, none⟩ = some (.int .i64 kn) := (hc 7 (by omega)).trans rfl
      have z8 : wo.cell? ⟨g, k * 14 + 8, none⟩ = some (.string (sb ks)) := (hc 8 (by omega)).trans rfl
      have z9 : wo.cell? ⟨g, k * 14 + 9, none⟩ = some (.slice N2 names.length cn2) := (hc 9 (by omega)).trans rfl
      have z10 : wo.cell? ⟨g, k * 14 + 10, none⟩ = some (.int .i64 pf) := (hc 10 (by omega)).trans rfl
      have z11 : wo.cell? ⟨g, k * 14 + 11, none⟩ = some (.int .i64 pl) := (hc 11 (by omega)).trans rfl
      have z12 : wo.cell? ⟨g, k * 14 + 12, none⟩ = some (.int .i64 ex) := (hc 12 (by omega)).trans rfl
      have z13 : wo.cell? ⟨g, k * 14 + 13, none⟩ = some (.bool once) := (hc 13 (by omega)).trans rfl
      have HX := Lib.hid hx
      have HFT := Lib.hid hft
      clear hrr hm hc hx hft
      go_upto_region 9 with (fail)
      have hblk := heap_alloc_new wo (.cells #[.int .i64 op, .int .i64 a, .int .i64 b, .int .i64 c, .int .i64 nn, .slice A2 args.length ca2, .int .i64 kk, .int .i64 kn, .string (sb ks), .slice N2 names.length cn2, .int .i64 pf, .int .i64 pl, .int .i64 ex, .bool once] 60)
      have K4 := (Keep.refl (fun _ => False) wo).alloc' (.cells #[.int .i64 op, .int .i64 a, .int .i64 b, .int .i64 c, .int .i64 nn, .slice A2 args.length ca2, .int .i64 kk, .int .i64 kn, .string (sb ks), .slice N2 names.length cn2, .int .i64 pf, .int .i64 pl, .int .i64 ex, .bool once] 60)
      obtain ⟨bb, hbb⟩ : ∃ bb, wo.heap.size = bb := ⟨_, rfl⟩
      obtain ⟨w4, hw4⟩ : ∃ W : World, wo.alloc (.cells #[.int .i64 op, .int .i64 a, .int .i64 b, .int .i64 c, .int .i64 nn, .slice A2 args.length ca2, .int .i64 kk, .int .i64 kn, .string (sb ks), .slice N2 names.length cn2, .int .i64 pf, .int .i64 pl, .int .i64 ex, .bool once] 60) = W := ⟨_, rfl⟩
      have HS4 := Lib.hid (show w4.heap.size = bb + 1 by rw [← hw4, ← hbb]; simp)
      rw [hbb] at hblk
      rw [hw4] at hblk K4
      rw [hw4, hbb]
      have HBB := Lib.hid hbb
      have HT4 := Lib.hid (HTo.out.quiet K4)
      have HK4 := Lib.hid K4
      have HI4 := Lib.hid hblk
      have HTB4 := Lib.hid ((K4.block q (blk_lt HBO.out) id).trans HBO.out)
      have HFT4 := Lib.hid (RI.Fits.keep HFT.out K4 (fun _ _ _ => id) (fun _ _ _ => id))
      have HKP4 := Lib.hid (show ∀ j, j < T.ins.length → ∃ v, w4.cell? ⟨g, j * 14 + 7, none⟩ = some (.int .i64 v) ∧ v = (T.at_ j).kn from fun j hj => by obtain ⟨v, a, b⟩ := HKP.out j hj; exact ⟨v, cell_kept HK4.out a id, b⟩)
      clear hblk K4 hbb hw4 HBO c1 HTo HKP HFT z0 z1 z2 z3 z4 z5 z6 z7 z8 z9 z10 z11 z12 z13
      have y0 := (blk_cell HI4.out 0).trans rfl
      obtain ⟨lb, hlb⟩ : ∃ lb, decide (k + 1 = N) = lb := ⟨_, rfl⟩
      have HLB := Lib.hid hlb
      have HLO : Hid ((op == 20 || op == 21) = lb) := Lib.hid (by
        have h9 := HLA.out
        rw [HN.out] at h9
        rw [← hlb, Bool.eq_iff_iff]
        simpa using h9)
      go_cut [7] from 32 to 202 (fun t wx => t = .bool lb ∧ Hid (w4 = wx))
      case first =>
        clear_value *
        as_aux_lemma =>
          by_cases h20 : op = 20
          · subst h20
            have hl9 : true = lb := by have h9 := HLO.out; simpa using h9
            subst hl9
            go_wp2_with fail
            go_meet
            exact ⟨rfl, Lib.hid rfl⟩
          · have b20 : (op == 20) = false := by simpa using h20
            have hl9 : (op == 21) = lb := by have h9 := HLO.out; rw [b20] at h9; simpa using h9
            go_wp2_with fail
            all_goals (go_meet; exact ⟨by simp_all, Lib.hid rfl⟩)
      case rest =>
        obtain ⟨rfl, hcc⟩ := hcut
        obtain rfl := hcc.out
        have e8 : ((k : Int) == (N : Int) - 1) = lb := by rw [← hlb, Bool.eq_iff_iff]; simp; omega
        have c1 := (blk_cell HTB4.out 2).trans rfl
        have HFD := Lib.hid (show Calls Tryd.prog 84 #[.agg #[.int .i64 op, .int .i64 a, .int .i64 b, .int .i64 c, .int .i64 nn, .slice A2 args.length ca2, .int .i64 kk, .int .i64 kn, .string (sb ks), .slice N2 names.length cn2, .int .i64 pf, .int .i64 pl, .int .i64 ex, .bool once]] w4 (fun e w' => e = .returned (.bool true) ∧ Since w4.heap.size w4 w') from rfields_any ⟨⟨op, a, b, c, nn, args, kk, kn, ks, names, pf, pl, ex, once⟩, A2, ca2, N2, cn2⟩ HFT4.out HSH.out HR.out.p1.2)
        have y0 : w4.cell? ⟨bb, 0, none⟩ = some (.int .i64 op) := (blk_cell HI4.out 0).trans rfl
        have y1 : w4.cell? ⟨bb, 1, none⟩ = some (.int .i64 a) := (blk_cell HI4.out 1).trans rfl
        have y2 : w4.cell? ⟨bb, 2, none⟩ = some (.int .i64 b) := (blk_cell HI4.out 2).trans rfl
        have y3 : w4.cell? ⟨bb, 3, none⟩ = some (.int .i64 c) := (blk_cell HI4.out 3).trans rfl
        have y4 : w4.cell? ⟨bb, 4, none⟩ = some (.int .i64 nn) := (blk_cell HI4.out 4).trans rfl
        have y5 : w4.cell? ⟨bb, 5, none⟩ = some (.slice A2 args.length ca2) := (blk_cell HI4.out 5).trans rfl
        have y6 : w4.cell? ⟨bb, 6, none⟩ = some (.int .i64 kk) := (blk_cell HI4.out 6).trans rfl
        have y7 : w4.cell? ⟨bb, 7, none⟩ = some (.int .i64 kn) := (blk_cell HI4.out 7).trans rfl
        have y8 : w4.cell? ⟨bb, 8, none⟩ = some (.string (sb ks)) := (blk_cell HI4.out 8).trans rfl
        have y9 : w4.cell? ⟨bb, 9, none⟩ = some (.slice N2 names.length cn2) := (blk_cell HI4.out 9).trans rfl
        have y10 : w4.cell? ⟨bb, 10, none⟩ = some (.int .i64 pf) := (blk_cell HI4.out 10).trans rfl
        have y11 : w4.cell? ⟨bb, 11, none⟩ = some (.int .i64 pl) := (blk_cell HI4.out 11).trans rfl
        have y12 : w4.cell? ⟨bb, 12, none⟩ = some (.int .i64 ex) := (blk_cell HI4.out 12).trans rfl
        have y13 : w4.cell? ⟨bb, 13, none⟩ = some (.bool once) := (blk_cell HI4.out 13).trans rfl
        go_upto_region 10 with (fail)
        go_cut [74] from 32 to 202 (fun t wx => t = .bool false ∧ Hid (Since w4.heap.size w4 wx))
        case first =>
          clear_value *
          as_aux_lemma =>
            by_cases h1 : op = 1
            · subst h1
              have hkP : k < P := HO1.out.1 rfl
              have c2 : decide (P ≤ k) = false := by simp; omega
              cases lb <;> (
                go_wp2_with fail
                ((with_reducible refine HFD.out.mono ?_); rintro ee w5 ⟨rfl, hk5⟩)
                go_wp2_with fail
                go_meet
                exact ⟨rfl, Lib.hid hk5⟩)
            · have b1 : (op == 1) = false := by simpa using h1
              cases lb <;> (
                go_wp2_with fail
                ((with_reducible refine HFD.out.mono ?_); rintro ee w5 ⟨rfl, hk5⟩)
                go_wp2_with fail
                go_meet
                exact ⟨rfl, Lib.hid hk5⟩)
        case rest =>
          obtain ⟨rfl, hcc⟩ := hcut
          have HI5 := Lib.hid ((hcc.out.block bb (blk_lt HI4.out) (Nat.not_le_of_lt (blk_lt HI4.out))).trans HI4.out)
          have HTB5 := Lib.hid ((hcc.out.block q (blk_lt HTB4.out) (Nat.not_le_of_lt (blk_lt HTB4.out))).trans HTB4.out)
          have HT5 := Lib.hid (HT4.out.since hcc.out)
          have HFT5 := Lib.hid (RI.Fits.keep HFT4.out hcc.out (fun g cur hg e => by have := blk_lt hg; omega) (fun g cur hg e => by have := blk_lt hg; omega))
          have HKP5 := Lib.hid (show ∀ j, j < T.ins.length → ∃ v, wc.cell? ⟨g, j * 14 + 7, none⟩ = some (.int .i64 v) ∧ v = (T.at_ j).kn from fun j hj => by obtain ⟨v, a, b⟩ := HKP4.out j hj; exact ⟨v, (hcc.out.cell (cell_lt a) (Nat.not_le_of_lt (cell_lt a))).trans a, b⟩)
          have HTK4 := Lib.hid ((HK4.out.block t0 (blk_lt HW.out.2) id).trans HW.out.2)
          have HTK5 := Lib.hid ((hcc.out.block t0 (blk_lt HTK4.out) (Nat.not_le_of_lt (blk_lt HTK4.out))).trans HTK4.out)
          have HK5 := Lib.hid (show Keep (fun b => b = t0 ∨ w3.heap.size ≤ b) w3 wc from Keep.trans HW.out.1 (Keep.trans (Keep.mono HK4.out (fun _ e => e.elim)) (Keep.mono hcc.out (fun b e => .inr (by have h1 := HW.out.1.size; have h2 := HK4.out.size; omega)))))
          obtain ⟨w5, rfl⟩ : ∃ w5 : World, w5 = wc := ⟨_, rfl⟩
          clear hcc HFD HI4 HTB4 HT4 HFT4 HKP4 HTK4 c1 y0 y1 y2 y3 y4 y5 y6 y7 y8 y9 y10 y11 y12 y13
          have y0 : w5.cell? ⟨bb, 0, none⟩ = some (.int .i64 op) := (blk_cell HI5.out 0).trans rfl
          have y1 : w5.cell? ⟨bb, 1, none⟩ = some (.int .i64 a) := (blk_cell HI5.out 1).trans rfl
          have y2 : w5.cell? ⟨bb, 2, none⟩ = some (.int .i64 b) := (blk_cell HI5.out 2).trans rfl
          have y3 : w5.cell? ⟨bb, 3, none⟩ = some (.int .i64 c) := (blk_cell HI5.out 3).trans rfl
          have y4 : w5.cell? ⟨bb, 4, none⟩ = some (.int .i64 nn) := (blk_cell HI5.out 4).trans rfl
          have y5 : w5.cell? ⟨bb, 5, none⟩ = some (.slice A2 args.length ca2) := (blk_cell HI5.out 5).trans rfl
          have y6 : w5.cell? ⟨bb, 6, none⟩ = some (.int .i64 kk) := (blk_cell HI5.out 6).trans rfl
          have y7 : w5.cell? ⟨bb, 7, none⟩ = some (.int .i64 kn) := (blk_cell HI5.out 7).trans rfl
          have y8 : w5.cell? ⟨bb, 8, none⟩ = some (.string (sb ks)) := (blk_cell HI5.out 8).trans rfl
          have y9 : w5.cell? ⟨bb, 9, none⟩ = some (.slice N2 names.length cn2) := (blk_cell HI5.out 9).trans rfl
          have y10 : w5.cell? ⟨bb, 10, none⟩ = some (.int .i64 pf) := (blk_cell HI5.out 10).trans rfl
          have y11 : w5.cell? ⟨bb, 11, none⟩ = some (.int .i64 pl) := (blk_cell HI5.out 11).trans rfl
          have y12 : w5.cell? ⟨bb, 12, none⟩ = some (.int .i64 ex) := (blk_cell HI5.out 12).trans rfl
          have y13 : w5.cell? ⟨bb, 13, none⟩ = some (.bool once) := (blk_cell HI5.out 13).trans rfl
          have c1 := (blk_cell HTB5.out 2).trans rfl
          go_upto_region 12 with (fail)
          go_cut [107] from 32 to 202 (fun t wx => t = .bool false ∧ Hid (Keep (fun _ => False) w5 wx))
          case first =>
            clear_value *
            as_aux_lemma =>
              by_cases h1 : op = 1
              · subst h1
                have hkP : k < P := HO1.out.1 rfl
                by_cases hk0 : k = 0
                · have c2 : decide (0 < k) = false := by simp; omega
                  have c3 : decide ((0 : Int) < (k : Int)) = false := by simp; omega
                  clear hk0
                  go_wp2_with fail
                  go_quiet (fail)
                  go_wp2_with fail
                  go_meet
                  exact ⟨rfl, Lib.hid (keep_drewN _ _ _)⟩
                · obtain ⟨v, hv, hvk⟩ := HKP5.out (k - 1) (by omega)
                  have hjp := (HR.out.good.shape (k - 1) (by omega)).1.p1 ((HR.out.good.shape (k - 1) (by omega)).2 (by omega))
                  rw [hjp.1] at hvk
                  have hkn := (HSH.out.p1 rfl).1
                  dsimp only at hkn
                  have hknj : decide (kn ≤ v) = false := by rw [hvk, hkn]; simp; omega
                  clear hjp hkn hvk
                  obtain ⟨j, rfl⟩ : ∃ j, k = j + 1 := ⟨k - 1, by omega⟩
                  rw [show j + 1 - 1 = j from rfl] at hv
                  have c3 : decide ((0 : Int) < (j : Int) + 1) = true := decide_eq_true (by omega)
                  have c5 : (j : Int) + 1 - 1 = (j : Int) := by omega
                  have c6 : j < N := by omega
                  have c7 : (j : Int) < (N : Int) := by omega
                  go_wp2_with fail
                  go_quiet (fail)
                  go_wp2_with fail
                  go_meet
                  exact ⟨rfl, Lib.hid (keep_drewN _ _ _)⟩
              · have b1 : (op == 1) = false := by simpa using h1
                by_cases h20 : op = 20
                · subst h20
                  have hal := (HSH.out.p20 rfl).1
                  dsimp only at hal
                  have c9 : ((args.length : Int) != (P : Int)) = false := by rw [hal]; simp
                  have c8 : ((args.length : Int) == (P : Int)) = true := by rw [hal]; simp
                  clear hal
                  go_wp2_with fail
                  go_quiet (fail)
                  go_wp2_with fail
                  go_meet
                  exact ⟨rfl, Lib.hid (keep_drewN _ _ _)⟩
                · have b20 : (op == 20) = false := by simpa using h20
                  go_wp2_with fail
                  go_quiet (fail)
                  go_wp2_with fail
                  go_meet
                  exact ⟨rfl, Lib.hid (keep_drewN _ _ _)⟩
          case rest =>
            obtain ⟨rfl, hcc⟩ := hcut
            obtain ⟨w6, rfl⟩ : ∃ w6 : World, w6 = wc := ⟨_, rfl⟩
            have HI6 := Lib.hid ((hcc.out.block bb (blk_lt HI5.out) id).trans HI5.out)
            have HTB6 := Lib.hid ((hcc.out.block q (blk_lt HTB5.out) id).trans HTB5.out)
            have HT6 := Lib.hid (HT5.out.quiet hcc.out)
            have HFT6 := Lib.hid (RI.Fits.keep HFT5.out hcc.out (fun _ _ _ => id) (fun _ _ _ => id))
            have HTK6 := Lib.hid ((hcc.out.block t0 (blk_lt HTK5.out) id).trans HTK5.out)
            have HK6 := Lib.hid (Keep.trans HK5.out (Keep.mono hcc.out (F' := fun b => b = t0 ∨ w3.heap.size ≤ b) (fun _ e => e.elim)))
            clear hcc HI5 HTB5 HT5 HFT5 HKP5 HTK5 HK5 y0 y1 y2 y3 y4 y5 y6 y7 y8 y9 y10 y11 y12 y13
            have HU := Lib.hid (show Calls Tryd.prog 56 #[.agg #[.int .i64 op, .int .i64 a, .int .i64 b, .int .i64 c, .int .i64 nn, .slice A2 args.length ca2, .int .i64 kk, .int .i64 kn, .string (sb ks), .slice N2 names.length cn2, .int .i64 pf, .int .i64 pl, .int .i64 ex, .bool once]] w6 _ from used_any ⟨⟨op, a, b, c, nn, args, kk, kn, ks, names, pf, pl, ex, once⟩, A2, ca2, N2, cn2⟩ HFT6.out)
            have HUV := Lib.hid (show ∀ v ∈ (RI.x ⟨⟨op, a, b, c, nn, args, kk, kn, ks, names, pf, pl, ex, once⟩, A2, ca2, N2, cn2⟩).uses, VB T k v from HSH.out.uses_vb)
            have HUF := Lib.hid (show (RI.x ⟨⟨op, a, b, c, nn, args, kk, kn, ks, names, pf, pl, ex, once⟩, A2, ca2, N2, cn2⟩).uses.length ≤ 4 from HSH.out.uses_few HR.out.p1.2)
            dsimp only at HU HUV HUF
            obtain ⟨us, hus⟩ : ∃ us, TI.uses ⟨op, a, b, c, nn, args, kk, kn, ks, names, pf, pl, ex, once⟩ = us := ⟨_, rfl⟩
            rw [hus] at HU HUV HUF
            clear hus
            have y0 : w6.cell? ⟨bb, 0, none⟩ = some (.int .i64 op) := (blk_cell HI6.out 0).trans rfl
            have y1 : w6.cell? ⟨bb, 1, none⟩ = some (.int .i64 a) := (blk_cell HI6.out 1).trans rfl
            have y2 : w6.cell? ⟨bb, 2, none⟩ = some (.int .i64 b) := (blk_cell HI6.out 2).trans rfl
            have y3 : w6.cell? ⟨bb, 3, none⟩ = some (.int .i64 c) := (blk_cell HI6.out 3).trans rfl
            have y4 : w6.cell? ⟨bb, 4, none⟩ = some (.int .i64 nn) := (blk_cell HI6.out 4).trans rfl
            have y5 : w6.cell? ⟨bb, 5, none⟩ = some (.slice A2 args.length ca2) := (blk_cell HI6.out 5).trans rfl
            have y6 : w6.cell? ⟨bb, 6, none⟩ = some (.int .i64 kk) := (blk_cell HI6.out 6).trans rfl
            have y7 : w6.cell? ⟨bb, 7, none⟩ = some (.int .i64 kn) := (blk_cell HI6.out 7).trans rfl
            have y8 : w6.cell? ⟨bb, 8, none⟩ = some (.string (sb ks)) := (blk_cell HI6.out 8).trans rfl
            have y9 : w6.cell? ⟨bb, 9, none⟩ = some (.slice N2 names.length cn2) := (blk_cell HI6.out 9).trans rfl
            have y10 : w6.cell? ⟨bb, 10, none⟩ = some (.int .i64 pf) := (blk_cell HI6.out 10).trans rfl
            have y11 : w6.cell? ⟨bb, 11, none⟩ = some (.int .i64 pl) := (blk_cell HI6.out 11).trans rfl
            have y12 : w6.cell? ⟨bb, 12, none⟩ = some (.int .i64 ex) := (blk_cell HI6.out 12).trans rfl
            have y13 : w6.cell? ⟨bb, 13, none⟩ = some (.bool once) := (blk_cell HI6.out 13).trans rfl
            go_wp2_with fail
            ((with_reducible refine HU.out.mono ?_); rintro ee w7 ⟨Au, cu, rfl, hiu, hk7⟩)
            have HI7 := Lib.hid ((hk7.block bb (blk_lt HI6.out) id).trans HI6.out)
            have HTB7 := Lib.hid ((hk7.block q (blk_lt HTB6.out) id).trans HTB6.out)
            have HT7 := Lib.hid (HT6.out.quiet hk7)
            have HTK7 := Lib.hid ((hk7.block t0 (blk_lt HTK6.out) id).trans HTK6.out)
            have HK7 := Lib.hid (Keep.trans HK6.out (Keep.mono hk7 (F' := fun b => b = t0 ∨ w3.heap.size ≤ b) (fun _ e => e.elim)))
            have HIU := Lib.hid hiu
            clear hiu hk7 HU HI6 HTB6 HT6 HFT6 HTK6 HK6 y0 y1 y2 y3 y4 y5 y6 y7 y8 y9 y10 y11 y12 y13
            obtain ⟨L, hL⟩ : ∃ L, us.length = L := ⟨_, rfl⟩
            rw [hL] at HIU HUF
            rw [hL]
            have HLL := Lib.hid hL
            have hL4 := HUF.out
            clear hL
            go_wp2_with fail
            go_loopw [9] (fun i wr => ∃ j : Nat, j ≤ L ∧ i = .int .i64 (j : Int) ∧ Hid (Keep (fun _ => False) w7 wr)) (fun i _ => L + 1 - (RowKit.intOf i).toNat)
            case atStart => exact ⟨0, Nat.zero_le _, rfl, Lib.hid (Keep.refl _ _)⟩
            case round =>
              obtain ⟨j, hj, rfl, HJ⟩ := hrel
              obtain ⟨wm, rfl⟩ : ∃ wm : World, wm = wr := ⟨_, rfl⟩
              by_cases hjl : j < L
              · have hb2 : decide (j < L) = true := by simpa using hjl
                obtain ⟨g2, o2, rfl, u0⟩ := (show IntsAt wm Au L us from CellsAt.keep HIU.out HJ.out (fun _ _ => id)).at_ j hjl
                have hvb : VB T k (us.getD j 0) := HUV.out _ (getD_mem (by rw [HLL.out]; exact hjl))
                obtain ⟨v, hv⟩ : ∃ v, us.getD j 0 = v := ⟨_, rfl⟩
                rw [hv] at u0 hvb
                have HBm := Lib.hid ((HJ.out.block q (blk_lt HTB7.out) id).trans HTB7.out)
                have HTm := Lib.hid (HT7.out.quiet HJ.out)
                have HVC := Lib.hid (show ∀ W3, Keep (fun _ => False) wm W3 → Calls Tryd.prog 85 #[.agg #[.int .i64 T.pf, .int .i64 T.pl, .slice (some ⟨g, 0, none⟩) N ca, .slice E M ce], .int .i64 v, .int .i64 (k : Int)] W3 fun e w' => e = .returned (.bool true) ∧ Keep (fun _ => False) W3 w' from fun W3 hW3 => by
                  have h9 := isval_any (HTm.out.quiet hW3) hvb (Nat.le_of_lt HKL.out) (by have := HR.out.few; omega)
                  unfold trV at h9
                  rw [HN.out, HMM.out] at h9
                  exact h9)
                obtain ⟨u, hu, huk, _⟩ := hvb
                have huN : u < T.ins.length := by have := HKL.out; omega
                obtain ⟨g3, hA3, hop⟩ := HTm.out.opAt huN
                obtain rfl : g = g3 := by
                  have := Option.some.inj hA3
                  injection this with a
                have hn17 := (HR.out.good.shape u huN).1.not17
                obtain ⟨op9, ho⟩ : ∃ op, (T.at_ u).op = op := ⟨_, rfl⟩
                rw [ho] at hop hn17
                have huN2 : u < N := by rw [← HN.out]; exact huN
                have huN3 : (u : Int) < (N : Int) := by omega
                have hjl3 : (j : Int) < (L : Int) := by omega
                have HB0m := HBm
                have hlv := u0
                subst hu
                clear ho huk huN hb2 hv u0 hA3
                go_wp2_with fail
                refine wp_region_drewU (S := (fun w' => Hid (w'.heap[q]? = some (.cells #[.int .i64 T.pf, .int .i64 T.pl, .slice (some ⟨g, 0, none⟩) N ca, .slice E M ce] 31 (0, 0)) ∧ w'.cell? ⟨g2, o2 + j, none⟩ = some (.int .i64 (u : Int)) ∧ w'.cell? ⟨g, u * 14, none⟩ = some (.int .i64 op9)))) (D := []) (by kernel_rfl) (by exact Lib.hid ⟨HB0m.out, hlv, hop⟩) (fun hH => ?_)
                refine wpAnyU_take (i := 0) (v := ?_) rfl (by kernel_rfl) (by kernel_rfl) (by kernel_rfl) (by kernel_rfl) (fun _ _ _ h => h) (Or.inl ⟨by rfl, ?_⟩) hH ?_
                rotate_left
                · (intro w'' hSw; (have f0 := (blk_cell hSw.out.1 0).trans rfl; have f1 := (blk_cell hSw.out.1 1).trans rfl; have f2 := (blk_cell hSw.out.1 2).trans rfl; have f3 := (blk_cell hSw.out.1 3).trans rfl); go_simp; try with_reducible rfl)
                change wpAnyU _ _ _ _ _ _ _ _ (Act.put _ (some 116) _) _
                try (simp only [Act.put, List.setIfInBounds_toArray]; dsimp only [List.set_cons_zero, List.set_cons_succ])
                refine wpAnyU_take (i := 1) (v := ?_) rfl (by kernel_rfl) (by kernel_rfl) (by kernel_rfl) (by kernel_rfl) (fun _ _ _ h => h) (Or.inl ⟨by rfl, ?_⟩) hH ?_
                rotate_left
                · (intro w'' hSw; (try dsimp only at hSw); go_simp; try with_reducible rfl)
                change wpAnyU _ _ _ _ _ _ _ _ (Act.put _ (some 117) _) _
                try (simp only [Act.put, List.setIfInBounds_toArray]; dsimp only [List.set_cons_zero, List.set_cons_succ])
                refine wpAnyU_take (i := 2) (v := ?_) rfl (by kernel_rfl) (by kernel_rfl) (by kernel_rfl) (by kernel_rfl) (fun _ _ _ h => h) (Or.inl ⟨by rfl, ?_⟩) hH ?_
                rotate_left
                · (intro w'' hSw; (try dsimp only at hSw); go_simp; try with_reducible rfl)
                change wpAnyU _ _ _ _ _ _ _ _ (Act.put _ (some 118) _) _
                try (simp only [Act.put, List.setIfInBounds_toArray]; dsimp only [List.set_cons_zero, List.set_cons_succ])
                refine wpAnyU_take (i := 3) (v := ?_) rfl (by kernel_rfl) (by kernel_rfl) (by kernel_rfl) (by kernel_rfl) (fun _ _ _ h => h) (Or.inl ⟨by rfl, ?_⟩) hH ?_
                rotate_left
                · (intro w'' hSw; (try dsimp only at hSw); go_simp; try with_reducible rfl)
                change wpAnyU _ _ _ _ _ _ _ _ (Act.put _ (some 119) _) _
                try (simp only [Act.put, List.setIfInBounds_toArray]; dsimp only [List.set_cons_zero, List.set_cons_succ])
                refine wpAnyU_take (i := 4) (v := ?_) rfl (by kernel_rfl) (by kernel_rfl) (by kernel_rfl) (by kernel_rfl) (fun _ _ _ h => h) (Or.inl ⟨by rfl, ?_⟩) hH ?_
                rotate_left
                · (intro w'' hSw; (have f4 := hSw.out.2.1); go_simp; try with_reducible rfl)
                change wpAnyU _ _ _ _ _ _ _ _ (Act.put _ (some 120) _) _
                try (simp only [Act.put, List.setIfInBounds_toArray]; dsimp only [List.set_cons_zero, List.set_cons_succ])
                refine wpAnyU_take (i := 5) (v := ?_) rfl (by kernel_rfl) (by kernel_rfl) (by kernel_rfl) (by kernel_rfl) (fun _ _ _ h => h) (Or.inl ⟨by rfl, ?_⟩) hH ?_
                rotate_left
                · (intro w'' hSw; (try dsimp only at hSw); go_simp; try with_reducible rfl)
                change wpAnyU _ _ _ _ _ _ _ _ (Act.put _ (some 121) _) _
                try (simp only [Act.put, List.setIfInBounds_toArray]; dsimp only [List.set_cons_zero, List.set_cons_succ])
                refine wpAnyU_ready (rs := [6]) (by kernel_rfl) (by simp) ?_
                refine AllReadyU.cons rfl (fun Kn hKn => ?_) AllReadyU.nil
                go_simp
                go_at_call 85
                (with_reducible refine (HVC.out _ (keep_draw _ _)).mono ?_)
                rintro ee we ⟨rfl, hke⟩
                have HKE := Lib.hid hke
                replace HJ := Lib.hid (Keep.trans HJ.out (Keep.trans (keep_draw (fun _ => False) wm) hke))
                clear hke
                refine hKn.out _ _ ?_ (fun hH => ?_)
                · (obtain ⟨s0, s1, s2⟩ := hH.out; exact Lib.hid ⟨(HKE.out.block _ (blk_lt s0) id).trans s0, cell_kept HKE.out s1 id, cell_kept HKE.out s2 id⟩)
                clear hKn Kn
                try (simp only [Act.put, List.setIfInBounds_toArray]; dsimp only [List.set_cons_zero, List.set_cons_succ])
                refine wpAnyU_take (i := 7) (v := ?_) rfl (by kernel_rfl) (by kernel_rfl) (by kernel_rfl) (by kernel_rfl) (fun _ _ _ h => h) (Or.inl ⟨by rfl, ?_⟩) hH ?_
                rotate_left
                · (intro w'' hSw; (try dsimp only at hSw); go_simp; try with_reducible rfl)
                change wpAnyU _ _ _ _ _ _ _ _ (Act.put _ (some 123) _) _
                try (simp only [Act.put, List.setIfInBounds_toArray]; dsimp only [List.set_cons_zero, List.set_cons_succ])
                refine wpAnyU_take (i := 8) (v := ?_) rfl (by kernel_rfl) (by kernel_rfl) (by kernel_rfl) (by kernel_rfl) (fun _ _ _ h => h) (Or.inl ⟨by rfl, ?_⟩) hH ?_
                rotate_left
                · (intro w'' hSw; (try dsimp only at hSw); go_simp; try with_reducible rfl)
                change wpAnyU _ _ _ _ _ _ _ _ (Act.put _ (some 124) _) _
                try (simp only [Act.put, List.setIfInBounds_toArray]; dsimp only [List.set_cons_zero, List.set_cons_succ])
                refine wpAnyU_take (i := 9) (v := ?_) rfl (by kernel_rfl) (by kernel_rfl) (by kernel_rfl) (by kernel_rfl) (fun _ _ _ h => h) (Or.inl ⟨by rfl, ?_⟩) hH ?_
                rotate_left
                · (intro w'' hSw; (try dsimp only at hSw); go_simp; try with_reducible rfl)
                change wpAnyU _ _ _ _ _ _ _ _ (Act.put _ (some 125) _) _
                try (simp only [Act.put, List.setIfInBounds_toArray]; dsimp only [List.set_cons_zero, List.set_cons_succ])
                refine wpAnyU_take (i := 10) (v := ?_) rfl (by kernel_rfl) (by kernel_rfl) (by kernel_rfl) (by kernel_rfl) (fun _ _ _ h => h) (Or.inl ⟨by rfl, ?_⟩) hH ?_
                rotate_left
                · (intro w'' hSw; (have f2 := (blk_cell hSw.out.1 2).trans rfl); go_simp; try with_reducible rfl)
                change wpAnyU _ _ _ _ _ _ _ _ (Act.put _ (some 126) _) _
                try (simp only [Act.put, List.setIfInBounds_toArray]; dsimp only [List.set_cons_zero, List.set_cons_succ])
                refine wpAnyU_take (i := 11) (v := ?_) rfl (by kernel_rfl) (by kernel_rfl) (by kernel_rfl) (by kernel_rfl) (fun _ _ _ h => h) (Or.inl ⟨by rfl, ?_⟩) hH ?_
                rotate_left
                · (intro w'' hSw; (try dsimp only at hSw); go_simp; try with_reducible rfl)
                change wpAnyU _ _ _ _ _ _ _ _ (Act.put _ (some 127) _) _
                try (simp only [Act.put, List.setIfInBounds_toArray]; dsimp only [List.set_cons_zero, List.set_cons_succ])
                refine wpAnyU_take (i := 12) (v := ?_) rfl (by kernel_rfl) (by kernel_rfl) (by kernel_rfl) (by kernel_rfl) (fun _ _ _ h => h) (Or.inl ⟨by rfl, ?_⟩) hH ?_
                rotate_left
                · (intro w'' hSw; (try dsimp only at hSw); go_simp; try with_reducible rfl)
                change wpAnyU _ _ _ _ _ _ _ _ (Act.put _ (some 128) _) _
                try (simp only [Act.put, List.setIfInBounds_toArray]; dsimp only [List.set_cons_zero, List.set_cons_succ])
                refine wpAnyU_take (i := 13) (v := ?_) rfl (by kernel_rfl) (by kernel_rfl) (by kernel_rfl) (by kernel_rfl) (fun _ _ _ h => h) (Or.inl ⟨by rfl, ?_⟩) hH ?_
                rotate_left
                · (intro w'' hSw; (try dsimp only at hSw); go_simp; try with_reducible rfl)
                change wpAnyU _ _ _ _ _ _ _ _ (Act.put _ (some 129) _) _
                try (simp only [Act.put, List.setIfInBounds_toArray]; dsimp only [List.set_cons_zero, List.set_cons_succ])
                refine wpAnyU_take (i := 14) (v := ?_) rfl (by kernel_rfl) (by kernel_rfl) (by kernel_rfl) (by kernel_rfl) (fun _ _ _ h => h) (Or.inl ⟨by rfl, ?_⟩) hH ?_
                rotate_left
                · (intro w'' hSw; (have f4 := hSw.out.2.1); go_simp; try with_reducible rfl)
                change wpAnyU _ _ _ _ _ _ _ _ (Act.put _ (some 130) _) _
                try (simp only [Act.put, List.setIfInBounds_toArray]; dsimp only [List.set_cons_zero, List.set_cons_succ])
                refine wpAnyU_take (i := 15) (v := ?_) rfl (by kernel_rfl) (by kernel_rfl) (by kernel_rfl) (by kernel_rfl) (fun _ _ _ h => h) (Or.inl ⟨by rfl, ?_⟩) hH ?_
                rotate_left
                · (intro w'' hSw; (try dsimp only at hSw); go_simp; try with_reducible rfl)
                change wpAnyU _ _ _ _ _ _ _ _ (Act.put _ (some 131) _) _
                try (simp only [Act.put, List.setIfInBounds_toArray]; dsimp only [List.set_cons_zero, List.set_cons_succ])
                refine wpAnyU_take (i := 16) (v := ?_) rfl (by kernel_rfl) (by kernel_rfl) (by kernel_rfl) (by kernel_rfl) (fun _ _ _ h => h) (Or.inl ⟨by rfl, ?_⟩) hH ?_
                rotate_left
                · (intro w'' hSw; (try dsimp only at hSw); go_simp; try with_reducible rfl)
                change wpAnyU _ _ _ _ _ _ _ _ (Act.put _ (some 132) _) _
                try (simp only [Act.put, List.setIfInBounds_toArray]; dsimp only [List.set_cons_zero, List.set_cons_succ])
                refine wpAnyU_take (i := 17) (v := ?_) rfl (by kernel_rfl) (by kernel_rfl) (by kernel_rfl) (by kernel_rfl) (fun _ _ _ h => h) (Or.inl ⟨by rfl, ?_⟩) hH ?_
                rotate_left
                · (intro w'' hSw; (have f5 := hSw.out.2.2); go_simp; try with_reducible rfl)
                change wpAnyU _ _ _ _ _ _ _ _ (Act.put _ (some 133) _) _
                try (simp only [Act.put, List.setIfInBounds_toArray]; dsimp only [List.set_cons_zero, List.set_cons_succ])
                refine wpAnyU_take (i := 18) (v := ?_) rfl (by kernel_rfl) (by kernel_rfl) (by kernel_rfl) (by kernel_rfl) (fun _ _ _ h => h) (Or.inl ⟨by rfl, ?_⟩) hH ?_
                rotate_left
                · (intro w'' hSw; (try dsimp only at hSw); go_simp; try with_reducible rfl)
                change wpAnyU _ _ _ _ _ _ _ _ (Act.put _ (some 134) _) _
                try (simp only [Act.put, List.setIfInBounds_toArray]; dsimp only [List.set_cons_zero, List.set_cons_succ])
                refine wpAnyU_take (i := 19) (v := ?_) rfl (by kernel_rfl) (by kernel_rfl) (by kernel_rfl) (by kernel_rfl) (fun _ _ _ h => h) (Or.inl ⟨by rfl, ?_⟩) hH ?_
                rotate_left
                · (intro w'' hSw; (try dsimp only at hSw); go_simp; try with_reducible rfl)
                change wpAnyU _ _ _ _ _ _ _ _ (Act.put _ (some 135) _) _
                try (simp only [Act.put, List.setIfInBounds_toArray]; dsimp only [List.set_cons_zero, List.set_cons_succ])
                refine wpAnyU_done (by kernel_rfl) ?_ _
                go_wp2_with fail
                exact ⟨⟨j + 1, by omega, by go_num, HJ⟩, by simp [RowKit.intOf]; omega⟩
              · have hb2 : decide (j < L) = false := by simpa using hjl
                obtain rfl : j = L := by omega
                have HI8 := Lib.hid ((HJ.out.block bb (blk_lt HI7.out) id).trans HI7.out)
                have HTB8 := Lib.hid ((HJ.out.block q (blk_lt HTB7.out) id).trans HTB7.out)
                have HT8 := Lib.hid (HT7.out.quiet HJ.out)
                have HTK8 := Lib.hid ((HJ.out.block t0 (blk_lt HTK7.out) id).trans HTK7.out)
                have HK8 := Lib.hid (Keep.trans HK7.out (Keep.mono HJ.out (F' := fun b => b = t0 ∨ w3.heap.size ≤ b) (fun _ e => e.elim)))
                clear HI7 HTB7 HT7 HTK7 HK7 HIU HUF HLL HUV HJ
                go_upto_region 20 with (fail)
                have y0 := (blk_cell HI8.out 0).trans rfl
                have y12 := (blk_cell HI8.out 12).trans rfl
                have y13 := (blk_cell HI8.out 13).trans rfl
                have d3 := (blk_cell HTB8.out 3).trans rfl
                have HRP := Lib.hid (fun W => repeats_any op W)
                have HLV := Lib.hid (fun W => leaves_any op W)
                have HRPT := Lib.hid (show once = true → repeatsOp op = true from fun e => HSH.out.once2 e)
                have HLN := Lib.hid (show ex < 0 → ex = -1 ∧ (leavesOp op == 2) = false from fun e => ⟨(HSH.out.exneg e).1, HSH.out.exneg2 e⟩)
                have HLP := Lib.hid (show 0 ≤ ex → (leavesOp op == 0) = false from fun e => HSH.out.expos2 e)
                obtain ⟨lv, hlv⟩ : ∃ lv, leavesOp op = lv := ⟨_, rfl⟩
                obtain ⟨rp, hrp⟩ : ∃ rp, repeatsOp op = rp := ⟨_, rfl⟩
                rw [hlv] at HLV HLN HLP
                rw [hrp] at HRP HRPT
                clear hlv hrp
                go_cut [178] from 32 to 202 (fun t wx => t = .bool false ∧ Hid (wm = wx))
                case first =>
                  clear_value *
                  as_aux_lemma =>
                    by_cases hex : 0 ≤ ex
                    · have l0 := HLP.out hex
                      have e1 : decide (ex < 0) = false := by simp; omega
                      have e2 : decide (ex < -1) = false := by simp; omega
                      have e3 : decide (0 ≤ ex) = true := by simpa using hex
                      have hxM : ex < (M : Int) := by have := (HEX.out hex).1; rw [HMM.out] at this; exact this
                      have e4 : decide ((M : Int) ≤ ex) = false := by simp; omega
                      clear hex hxM
                      cases once with
                      | true =>
                        obtain rfl : rp = true := HRPT.out rfl
                        go_wp2_with fail
                        ((with_reducible refine (HRP.out _).mono ?_); rintro ee we ⟨rfl, rfl⟩)
                        go_wp2_with fail
                        ((with_reducible refine (HLV.out _).mono ?_); rintro ee we ⟨rfl, rfl⟩)
                        go_wp2_with fail
                        go_meet
                        exact ⟨rfl, Lib.hid rfl⟩
                      | false =>
                        go_wp2_with fail
                        ((with_reducible refine (HLV.out _).mono ?_); rintro ee we ⟨rfl, rfl⟩)
                        go_wp2_with fail
                        go_meet
                        exact ⟨rfl, Lib.hid rfl⟩
                    · obtain ⟨hex1, l2⟩ := HLN.out (by omega)
                      subst hex1
                      have e4 : decide ((M : Int) ≤ -1) = false := by simp; omega
                      cases once with
                      | true =>
                        obtain rfl : rp = true := HRPT.out rfl
                        go_wp2_with fail
                        ((with_reducible refine (HRP.out _).mono ?_); rintro ee we ⟨rfl, rfl⟩)
                        go_wp2_with fail
                        ((with_reducible refine (HLV.out _).mono ?_); rintro ee we ⟨rfl, rfl⟩)
                        go_wp2_with fail
                        go_meet
                        exact ⟨rfl, Lib.hid rfl⟩
                      | false =>
                        go_wp2_with fail
                        ((with_reducible refine (HLV.out _).mono ?_); rintro ee we ⟨rfl, rfl⟩)
                        go_wp2_with fail
                        go_meet
                        exact ⟨rfl, Lib.hid rfl⟩
                case rest =>
                  obtain ⟨rfl, hcc⟩ := hcut
                  obtain rfl := hcc.out
                  clear hcc HRP HLV HRPT HLN HLP
                  by_cases hex : 0 ≤ ex
                  · obtain ⟨nx, rfl⟩ : ∃ nx : Nat, ex = (nx : Int) := ⟨ex.toNat, by omega⟩
                    obtain ⟨hxM, hxo⟩ := HEX.out hex
                    have hxM2 : nx < T.exits.length := by omega
                    have hnxM : nx < M := by rw [← HMM.out]; exact hxM2
                    have hnxM2 : (nx : Int) < (M : Int) := by omega
                    obtain ⟨gx, rfl, hxx, hxm, hxc⟩ := HT8.out.cellsX (k := nx) hxM2
                    have hfree : T.exTo k (nx : Int) = false := by
                      have h9 := exTo_free HR.out HKL.out (by rw [← HX.out]; exact hex)
                      rw [← HX.out] at h9
                      exact h9
                    have tk0 : wm.cell? ⟨t0, nx, none⟩ = some (.bool false) := by rw [blk_cell HTK8.out nx, boolsF_at _ hnxM, hfree]
                    obtain ⟨rx, hrx⟩ : ∃ rx, X.getD nx RX.dflt = rx := ⟨_, rfl⟩
                    rw [hrx] at hxx hxm hxc
                    have HRF := Lib.hid (HT8.out.fitX _ hxm)
                    have HOK : Hid (ExOK T k (T.exits.getD nx TX.dflt)) := Lib.hid (by
                      have h9 := hxo
                      unfold TR.ext at h9
                      rw [← HX.out] at h9
                      exact h9)
                    obtain ⟨xx, AF, cF, FF⟩ := rx
                    dsimp only at hxx
                    rw [← hxx] at HOK
                    have x0 : wm.cell? ⟨gx, nx * 3, none⟩ = some (.slice AF FF.length cF) := (hxc 0 (by omega)).trans rfl
                    have x1 : wm.cell? ⟨gx, nx * 3 + 1, none⟩ = some (.slice none 0 0) := (hxc 1 (by omega)).trans rfl
                    have x2 : wm.cell? ⟨gx, nx * 3 + 2, none⟩ = some (.int .i64 xx.back) := (hxc 2 (by omega)).trans rfl
                    have HXI := Lib.hid (show ∀ W, Keep (fun _ => False) wm W → Calls Tryd.prog 87 #[trV (some ⟨g, 0, none⟩) ca (some ⟨gx, 0, none⟩) ce T, .agg (RX.cells ⟨xx, AF, cF, FF⟩).toArray, .int .i64 (k : Int)] W _ from fun W hW => rexit_any (HT8.out.quiet hW) HR.out HKL.out ⟨xx, AF, cF, FF⟩ (RX.Fits.keep HRF.out hW (fun _ _ _ => id) (fun _ _ _ => id)) HOK.out)
                    unfold trV RX.cells at HXI
                    dsimp only at HXI
                    rw [HN.out, HMM.out] at HXI
                    obtain ⟨LF, hLF⟩ : ∃ n, FF.length = n := ⟨_, rfl⟩
                    obtain ⟨bk, hbk⟩ : ∃ n, xx.back = n := ⟨_, rfl⟩
                    rw [hLF] at x0 HXI
                    rw [hbk] at x2 HXI
                    have HXT := Lib.hid (show T.exTo (k + 1) = fun j => j == (nx : Int) || T.exTo k j from by
                      rw [exTo_succ, ← HX.out]
                      simp only [if_pos hex])
                    clear hLF hbk hxc hxm hrx hxx hxo hfree hxM hxM2 y0 y12 y13 d3
                    have y12 := (blk_cell HI8.out 12).trans rfl
                    go_upto_region 23 with (fail)
                    refine wp_region_drewU (S := (fun w' => Hid (w'.heap[q]? = some (.cells #[.int .i64 T.pf, .int .i64 T.pl, .slice (some ⟨g, 0, none⟩) N ca, .slice (some ⟨gx, 0, none⟩) M ce] 31 (0, 0)) ∧ w'.heap[bb]? = some (.cells #[.int .i64 op, .int .i64 a, .int .i64 b, .int .i64 c, .int .i64 nn, .slice A2 args.length ca2, .int .i64 kk, .int .i64 kn, .string (sb ks), .slice N2 names.length cn2, .int .i64 pf, .int .i64 pl, .int .i64 (nx : Int), .bool once] 60 (0, 0)) ∧ w'.cell? ⟨gx, nx * 3, none⟩ = some (.slice AF LF cF) ∧ w'.cell? ⟨gx, nx * 3 + 1, none⟩ = some (.slice none 0 0) ∧ w'.cell? ⟨gx, nx * 3 + 2, none⟩ = some (.int .i64 bk) ∧ w'.cell? ⟨t0, nx, none⟩ = some (.bool false)))) (D := []) (by kernel_rfl) (by exact Lib.hid ⟨HTB8.out, HI8.out, x0, x1, x2, tk0⟩) (fun hH => ?_)
                    refine wpAnyU_take (i := 0) (v := ?_) rfl (by kernel_rfl) (by kernel_rfl) (by kernel_rfl) (by kernel_rfl) (fun _ _ _ h => h) (Or.inl ⟨by rfl, ?_⟩) hH ?_
                    rotate_left
                    · (intro w'' hSw; (try dsimp only at hSw); go_simp; try with_reducible rfl)
                    change wpAnyU _ _ _ _ _ _ _ _ (Act.put _ (some 182) _) _
                    try (simp only [Act.put, List.setIfInBounds_toArray]; dsimp only [List.set_cons_zero, List.set_cons_succ])
                    refine wpAnyU_take (i := 1) (v := ?_) rfl (by kernel_rfl) (by kernel_rfl) (by kernel_rfl) (by kernel_rfl) (fun _ _ _ h => h) (Or.inl ⟨by rfl, ?_⟩) hH ?_
                    rotate_left
                    · (intro w'' hSw; (try dsimp only at hSw); go_simp; try with_reducible rfl)
                    change wpAnyU _ _ _ _ _ _ _ _ (Act.put _ (some 183) _) _
                    try (simp only [Act.put, List.setIfInBounds_toArray]; dsimp only [List.set_cons_zero, List.set_cons_succ])
                    refine wpAnyU_take (i := 2) (v := ?_) rfl (by kernel_rfl) (by kernel_rfl) (by kernel_rfl) (by kernel_rfl) (fun _ _ _ h => h) (Or.inl ⟨by rfl, ?_⟩) hH ?_
                    rotate_left
                    · (intro w'' hSw; (have f12 := (blk_cell hSw.out.2.1 12).trans rfl); go_simp; try with_reducible rfl)
                    change wpAnyU _ _ _ _ _ _ _ _ (Act.put _ (some 184) _) _
                    try (simp only [Act.put, List.setIfInBounds_toArray]; dsimp only [List.set_cons_zero, List.set_cons_succ])
                    refine wpAnyU_take (i := 3) (v := ?_) rfl (by kernel_rfl) (by kernel_rfl) (by kernel_rfl) (by kernel_rfl) (fun _ _ _ h => h) (Or.inl ⟨by rfl, ?_⟩) hH ?_
                    rotate_left
                    · (intro w'' hSw; (try dsimp only at hSw); go_simp; try with_reducible rfl)
                    change wpAnyU _ _ _ _ _ _ _ _ (Act.put _ (some 185) _) _
                    try (simp only [Act.put, List.setIfInBounds_toArray]; dsimp only [List.set_cons_zero, List.set_cons_succ])
                    refine wpAnyU_take (i := 4) (v := ?_) rfl (by kernel_rfl) (by kernel_rfl) (by kernel_rfl) (by kernel_rfl) (fun _ _ _ h => h) (Or.inl ⟨by rfl, ?_⟩) hH ?_
                    rotate_left
                    · (intro w'' hSw; (have f4 := hSw.out.2.2.2.2.2); go_simp; try with_reducible rfl)
                    change wpAnyU _ _ _ _ _ _ _ _ (Act.put _ (some 186) _) _
                    try (simp only [Act.put, List.setIfInBounds_toArray]; dsimp only [List.set_cons_zero, List.set_cons_succ])
                    refine wpAnyU_take (i := 5) (v := ?_) rfl (by kernel_rfl) (by kernel_rfl) (by kernel_rfl) (by kernel_rfl) (fun _ _ _ h => h) (Or.inl ⟨by rfl, ?_⟩) hH ?_
                    rotate_left
                    · (intro w'' hSw; (try dsimp only at hSw); go_simp; try with_reducible rfl)
                    change wpAnyU _ _ _ _ _ _ _ _ (Act.put _ (some 187) _) _
                    try (simp only [Act.put, List.setIfInBounds_toArray]; dsimp only [List.set_cons_zero, List.set_cons_succ])
                    refine wpAnyU_take (i := 6) (v := ?_) rfl (by kernel_rfl) (by kernel_rfl) (by kernel_rfl) (by kernel_rfl) (fun _ _ _ h => h) (Or.inl ⟨by rfl, ?_⟩) hH ?_
                    rotate_left
                    · (intro w'' hSw; (have f0 := (blk_cell hSw.out.1 0).trans rfl; have f1 := (blk_cell hSw.out.1 1).trans rfl; have f2 := (blk_cell hSw.out.1 2).trans rfl; have f3 := (blk_cell hSw.out.1 3).trans rfl); go_simp; try with_reducible rfl)
                    change wpAnyU _ _ _ _ _ _ _ _ (Act.put _ (some 188) _) _
                    try (simp only [Act.put, List.setIfInBounds_toArray]; dsimp only [List.set_cons_zero, List.set_cons_succ])
                    refine wpAnyU_take (i := 7) (v := ?_) rfl (by kernel_rfl) (by kernel_rfl) (by kernel_rfl) (by kernel_rfl) (fun _ _ _ h => h) (Or.inl ⟨by rfl, ?_⟩) hH ?_
                    rotate_left
                    · (intro w'' hSw; (try dsimp only at hSw); go_simp; try with_reducible rfl)
                    change wpAnyU _ _ _ _ _ _ _ _ (Act.put _ (some 189) _) _
                    try (simp only [Act.put, List.setIfInBounds_toArray]; dsimp only [List.set_cons_zero, List.set_cons_succ])
                    refine wpAnyU_take (i := 8) (v := ?_) rfl (by kernel_rfl) (by kernel_rfl) (by kernel_rfl) (by kernel_rfl) (fun _ _ _ h => h) (Or.inl ⟨by rfl, ?_⟩) hH ?_
                    rotate_left
                    · (intro w'' hSw; (have f3 := (blk_cell hSw.out.1 3).trans rfl); go_simp; try with_reducible rfl)
                    change wpAnyU _ _ _ _ _ _ _ _ (Act.put _ (some 190) _) _
                    try (simp only [Act.put, List.setIfInBounds_toArray]; dsimp only [List.set_cons_zero, List.set_cons_succ])
                    refine wpAnyU_take (i := 9) (v := ?_) rfl (by kernel_rfl) (by kernel_rfl) (by kernel_rfl) (by kernel_rfl) (fun _ _ _ h => h) (Or.inl ⟨by rfl, ?_⟩) hH ?_
                    rotate_left
                    · (intro w'' hSw; (try dsimp only at hSw); go_simp; try with_reducible rfl)
                    change wpAnyU _ _ _ _ _ _ _ _ (Act.put _ (some 191) _) _
                    try (simp only [Act.put, List.setIfInBounds_toArray]; dsimp only [List.set_cons_zero, List.set_cons_succ])
                    refine wpAnyU_take (i := 10) (v := ?_) rfl (by kernel_rfl) (by kernel_rfl) (by kernel_rfl) (by kernel_rfl) (fun _ _ _ h => h) (Or.inl ⟨by rfl, ?_⟩) hH ?_
                    rotate_left
                    · (intro w'' hSw; (have f12 := (blk_cell hSw.out.2.1 12).trans rfl); go_simp; try with_reducible rfl)
                    change wpAnyU _ _ _ _ _ _ _ _ (Act.put _ (some 192) _) _
                    try (simp only [Act.put, List.setIfInBounds_toArray]; dsimp only [List.set_cons_zero, List.set_cons_succ])
                    refine wpAnyU_take (i := 11) (v := ?_) rfl (by kernel_rfl) (by kernel_rfl) (by kernel_rfl) (by kernel_rfl) (fun _ _ _ h => h) (Or.inl ⟨by rfl, ?_⟩) hH ?_
                    rotate_left
                    · (intro w'' hSw; (try dsimp only at hSw); go_simp; try with_reducible rfl)
                    change wpAnyU _ _ _ _ _ _ _ _ (Act.put _ (some 193) _) _
                    try (simp only [Act.put, List.setIfInBounds_toArray]; dsimp only [List.set_cons_zero, List.set_cons_succ])
                    refine wpAnyU_take (i := 12) (v := ?_) rfl (by kernel_rfl) (by kernel_rfl) (by kernel_rfl) (by kernel_rfl) (fun _ _ _ h => h) (Or.inl ⟨by rfl, ?_⟩) hH ?_
                    rotate_left
                    · (intro w'' hSw; (have f0 := hSw.out.2.2.1; have f1 := hSw.out.2.2.2.1; have f2 := hSw.out.2.2.2.2.1); go_simp; try with_reducible rfl)
                    change wpAnyU _ _ _ _ _ _ _ _ (Act.put _ (some 194) _) _
                    try (simp only [Act.put, List.setIfInBounds_toArray]; dsimp only [List.set_cons_zero, List.set_cons_succ])
                    refine wpAnyU_take (i := 13) (v := ?_) rfl (by kernel_rfl) (by kernel_rfl) (by kernel_rfl) (by kernel_rfl) (fun _ _ _ h => h) (Or.inl ⟨by rfl, ?_⟩) hH ?_
                    rotate_left
                    · (intro w'' hSw; (try dsimp only at hSw); go_simp; try with_reducible rfl)
                    change wpAnyU _ _ _ _ _ _ _ _ (Act.put _ (some 195) _) _
                    try (simp only [Act.put, List.setIfInBounds_toArray]; dsimp only [List.set_cons_zero, List.set_cons_succ])
                    refine wpAnyU_ready (rs := [14]) (by kernel_rfl) (by simp) ?_
                    refine AllReadyU.cons rfl (fun Kn hKn => ?_) AllReadyU.nil
                    go_simp
                    go_at_call 87
                    (with_reducible refine (HXI.out _ (keep_draw _ _)).mono ?_)
                    rintro ee we ⟨rfl, hke⟩
                    have HKE := Lib.hid hke
                    have HKF := Lib.hid (show Since wm.heap.size wm we from Keep.trans (keep_draw _ wm) hke)
                    clear hke
                    refine hKn.out _ _ ?_ (fun hH => ?_)
                    · (obtain ⟨s0, s1, s2, s3, s4, s5⟩ := hH.out; exact Lib.hid ⟨(HKE.out.block _ (blk_lt s0) (Nat.not_le_of_lt (blk_lt s0))).trans s0, (HKE.out.block _ (blk_lt s1) (Nat.not_le_of_lt (blk_lt s1))).trans s1, (HKE.out.cell (cell_lt s2) (Nat.not_le_of_lt (cell_lt s2))).trans s2, (HKE.out.cell (cell_lt s3) (Nat.not_le_of_lt (cell_lt s3))).trans s3, (HKE.out.cell (cell_lt s4) (Nat.not_le_of_lt (cell_lt s4))).trans s4, (HKE.out.cell (cell_lt s5) (Nat.not_le_of_lt (cell_lt s5))).trans s5⟩)
                    clear hKn Kn
                    try (simp only [Act.put, List.setIfInBounds_toArray]; dsimp only [List.set_cons_zero, List.set_cons_succ])
                    refine wpAnyU_take (i := 15) (v := ?_) rfl (by kernel_rfl) (by kernel_rfl) (by kernel_rfl) (by kernel_rfl) (fun _ _ _ h => h) (Or.inl ⟨by rfl, ?_⟩) hH ?_
                    rotate_left
                    · (intro w'' hSw; (try dsimp only at hSw); go_simp; try with_reducible rfl)
                    change wpAnyU _ _ _ _ _ _ _ _ (Act.put _ (some 197) _) _
                    try (simp only [Act.put, List.setIfInBounds_toArray]; dsimp only [List.set_cons_zero, List.set_cons_succ])
                    refine wpAnyU_take (i := 16) (v := ?_) rfl (by kernel_rfl) (by kernel_rfl) (by kernel_rfl) (by kernel_rfl) (fun _ _ _ h => h) (Or.inl ⟨by rfl, ?_⟩) hH ?_
                    rotate_left
                    · (intro w'' hSw; (try dsimp only at hSw); go_simp; try with_reducible rfl)
                    change wpAnyU _ _ _ _ _ _ _ _ (Act.put _ (some 198) _) _
                    try (simp only [Act.put, List.setIfInBounds_toArray]; dsimp only [List.set_cons_zero, List.set_cons_succ])
                    refine wpAnyU_done (by kernel_rfl) ?_ _
                    have HTK9 := Lib.hid ((HKF.out.block t0 (blk_lt HTK8.out) (Nat.not_le_of_lt (blk_lt HTK8.out))).trans HTK8.out)
                    have HI9 := Lib.hid ((HKF.out.block bb (blk_lt HI8.out) (Nat.not_le_of_lt (blk_lt HI8.out))).trans HI8.out)
                    clear y12 tk0 x0 x1 x2
                    have y12 := (blk_cell HI9.out 12).trans rfl
                    have tk1 : we.cell? ⟨t0, nx, none⟩ = some (.bool (T.exTo k (nx : Int))) := by rw [blk_cell HTK9.out nx, boolsF_at _ hnxM]
                    have tf1 := blk_free HTK9.out nx
                    go_wp2_with fail
                    have HKG := Lib.hid (keep_set (Keep.refl (fun b => b = t0) we) nx (.bool true))
                    have HTG := Lib.hid ((blk_set HTK9.out nx (.bool true)).trans (by rw [boolsF_set, ← HXT.out]))
                    exact ⟨⟨k + 1, by omega, by go_num, Lib.hid ⟨Keep.trans HK8.out (Keep.trans (Keep.mono HKF.out (fun b e => .inr (by have := HK8.out.size; omega))) (Keep.mono HKG.out (fun b e => .inl e))), HTG.out⟩⟩, by simp [RowKit.intOf]; omega⟩
                  · have hexn : decide (0 ≤ ex) = false := by simp; omega
                    have HXT := Lib.hid (show T.exTo (k + 1) = T.exTo k from by
                      rw [exTo_succ, ← HX.out]
                      simp only [if_neg hex])
                    clear hex
                    go_wp2_with fail
                    exact ⟨⟨k + 1, by omega, by go_num, Lib.hid ⟨HK8.out, by rw [HXT.out]; exact HTK8.out⟩⟩, by simp [RowKit.intOf]; omega⟩
    · have hb1 : decide (k < N) = false := by simpa using hlt
      go_wp2_with fail
      go_ret
      exact ⟨rfl, Keep.trans (Since.of HK3.out) (Keep.mono HW.out.1 (fun b e => by have h1 := HSZ3.out; have h2 := HQ.out; omega))⟩
end
end Go.Proofs.YtnbpgipbfejllaaDoor
