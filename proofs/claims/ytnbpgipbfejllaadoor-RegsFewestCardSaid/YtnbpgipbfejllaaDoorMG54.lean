/- Right and Rewrite (RwOnce), the reference's. -/
import Derived.Test.YtnbpgipbfejllaaDoorMG46
import Derived.Test.YtnbpgipbfejllaaDoorMG53
import Derived.Laws.ResultCell
import Derived.Test.YtnbpgipbfejllaaDoorMG39
import Derived.Test.YtnbpgipbfejllaaDoorMG7
namespace Go.Proofs.YtnbpgipbfejllaaDoor
open Go.RowKit Go.Lib
set_option linter.unusedVariables false
set_option linter.unusedSimpArgs false

theorem results_row_tmp2 {P : Program} {fn : Func} {p u : Tmp} {ty : TypeId} (h : fn.results = #[.cell p ty, .tmp u]) (tmps : Array Value) (w : World) (g : Nat) (t : TypeId) (cs : Array Value) (fr : Nat × Nat) (d : TypeDesc)
    (hp : tmps.getD p undef = .pointer (some ⟨g, 0, none⟩)) (hg : w.heap[g]? = some (.cells cs t fr))
    (hu : P.underlying ty = some d) (hd : (match d with | .struct _ | .array _ _ => true | _ => false) = true) (hi : (P.info? ty).map (·.size) = some cs.size) :
    (results fn tmps).run P w = .ok (.tuple #[.agg cs, tmps.getD u undef]) w := by
  have hp' : tmps[p]?.getD undef = .pointer (some ⟨g, 0, none⟩) := by simpa using hp
  simp [results, h, hp', asAddr, run_loadVar_row w g t ty cs fr d hg hu hd hi]
def Z4 : Array Value := #[.int .i64 0, .int .i64 0, .slice none 0 0, .slice none 0 0]
section
variable {w w' : World} {A : Option Addr} {ca : Nat} {E : Option Addr} {ce : Nat} {R : List RI} {X : List RX} {T : TR}
set_option maxRecDepth 100000 in
set_option maxHeartbeats 8000000 in
theorem rright_any {P : Nat} (h : TA w A ca E ce R X T) (hr : RightT P T) : Calls Tryd.prog 31 #[trV A ca E ce T] w fun e w' => e = .returned (.int .i64 0) ∧ Since w.heap.size w w' := by
  have HK := Lib.hid ((Keep.refl (fun _ => False) w).alloc' (.cells #[.int .i64 T.pf, .int .i64 T.pl, .slice A T.ins.length ca, .slice E T.exits.length ce] 31))
  have HRR := Lib.hid (rright0_any (h.quiet HK.out) hr)
  have HB := Lib.hid (heap_alloc_new w (.cells #[.int .i64 T.pf, .int .i64 T.pl, .slice A T.ins.length ca, .slice E T.exits.length ce] 31))
  have hfew := hr.few
  have hxf := Nat.le_trans hr.good.few hr.few
  unfold trV at HRR ⊢
  obtain ⟨N, hN⟩ : ∃ N, T.ins.length = N := ⟨_, rfl⟩
  obtain ⟨M, hM⟩ : ∃ M, T.exits.length = M := ⟨_, rfl⟩
  rw [hN, hM] at HK HB HRR
  rw [hN] at hfew
  rw [hM] at hxf
  rw [hN, hM]
  clear h hr hN hM
  have h1 : decide (200 < N) = false := by simp; omega
  have h2 : decide (60 < M) = false := by simp; omega
  go_enter Tryd.func31, Tryd.ntmps31
  go_upto_region 1 with (fail)
  obtain ⟨w1, hw1⟩ : ∃ W : World, w.alloc (.cells #[.int .i64 T.pf, .int .i64 T.pl, .slice A N ca, .slice E M ce] 31) = W := ⟨_, rfl⟩
  obtain ⟨q, hq⟩ : ∃ q, w.heap.size = q := ⟨_, rfl⟩
  rw [hw1] at HK HB HRR
  rw [hq] at HB
  rw [hw1, hq]
  have HQ := Lib.hid hq
  clear hw1 hq
  have d0 := (blk_cell HB.out 0).trans rfl
  have d1 := (blk_cell HB.out 1).trans rfl
  have d2 := (blk_cell HB.out 2).trans rfl
  have d3 := (blk_cell HB.out 3).trans rfl
  go_wp2_with fail
  ((with_reducible refine HRR.out.mono ?_); rintro ee w2 ⟨rfl, hk2⟩)
  go_wp2_with fail
  go_ret
  exact ⟨rfl, Keep.trans (Since.of HK.out) (Since.mono hk2 HK.out.size)⟩
set_option maxRecDepth 100000 in
set_option maxHeartbeats 16000000 in
theorem rewrite_any {P : Nat} (h : TA w A ca E ce R X T) (hr : RightT P T) {k : Nat} (hk : k < T.ins.length) : Calls Tryd.prog 50 #[trV A ca E ce T, .agg #[.int .i64 5, .int .i64 (k : Int), .int .i64 0, .int .i64 0, .int .i64 0, .string ⟨#[]⟩]] w fun e w' => Since w.heap.size w w' ∧
    ((∃ A' ca' E' ce' R' X', e = .returned (.tuple #[trV A' ca' E' ce' (T.setOnce k), .int .i64 0]) ∧ TA w' A' ca' E' ce' R' X' (T.setOnce k) ∧ RightT P (T.setOnce k)) ∨ e = .returned (.tuple #[.agg Z4, .int .i64 1])) := by
  have HR := Lib.hid hr
  have HKL := Lib.hid hk
  have HT0 := Lib.hid h
  have hfew := hr.few
  have hxf := Nat.le_trans hr.good.few hr.few
  obtain ⟨N, hN⟩ : ∃ N, T.ins.length = N := ⟨_, rfl⟩
  obtain ⟨M, hM⟩ : ∃ M, T.exits.length = M := ⟨_, rfl⟩
  have HN := Lib.hid hN
  have HMM := Lib.hid hM
  have HRR := Lib.hid (show ∀ W, TA W A ca E ce R X T → Calls Tryd.prog 31 #[.agg #[.int .i64 T.pf, .int .i64 T.pl, .slice A N ca, .slice E M ce]] W (fun e w' => e = .returned (.int .i64 0) ∧ Since W.heap.size W w') from fun W hW => by
    have h9 := rright_any hW hr
    unfold trV at h9
    rw [hN, hM] at h9
    exact h9)
  have HCP := Lib.hid (show ∀ W, TA W A ca E ce R X T → Calls Tryd.prog 43 #[.agg #[.int .i64 T.pf, .int .i64 T.pl, .slice A N ca, .slice E M ce]] W (fun e w' => ∃ A' ca' E' ce' R' X', e = .returned (.agg #[.int .i64 T.pf, .int .i64 T.pl, .slice A' N ca', .slice E' M ce']) ∧ TA w' A' ca' E' ce' R' X' T ∧ (∀ a, A' = some a → W.heap.size ≤ a.block) ∧ Since W.heap.size W w') from fun W hW => by
    have h9 := copy_any hW hr
    unfold trV at h9
    rw [hN, hM] at h9
    exact h9)
  rw [hN] at hk hfew
  unfold trV
  rw [show (T.setOnce k).ins.length = N by rw [once_len, hN], show (T.setOnce k).exits.length = M from hM, hN, hM]
  clear h hr hN hM
  have hkI : (k : Int) < (N : Int) := by omega
  have hk1 : decide ((k : Int) < 0) = false := by simp
  have hk2 : decide ((N : Int) ≤ (k : Int)) = false := by simp; omega
  have hk3 : decide (N ≤ k) = false := by simp; omega
  have HK := Lib.hid ((((Keep.refl (fun _ => False) w).alloc' (.cells #[.int .i64 T.pf, .int .i64 T.pl, .slice A N ca, .slice E M ce] 31)).alloc' (.cells #[.int .i64 5, .int .i64 (k : Int), .int .i64 0, .int .i64 0, .int .i64 0, .string ⟨#[]⟩] 108)).alloc' (.cells #[.int .i64 0, .int .i64 0, .slice none 0 0, .slice none 0 0] 31))
  have HB0 := Lib.hid (show (((w.alloc (.cells #[.int .i64 T.pf, .int .i64 T.pl, .slice A N ca, .slice E M ce] 31)).alloc (.cells #[.int .i64 5, .int .i64 (k : Int), .int .i64 0, .int .i64 0, .int .i64 0, .string ⟨#[]⟩] 108)).alloc (.cells #[.int .i64 0, .int .i64 0, .slice none 0 0, .slice none 0 0] 31)).heap[w.heap.size]? = some (.cells #[.int .i64 T.pf, .int .i64 T.pl, .slice A N ca, .slice E M ce] 31 (0, 0)) from alloc_old' (alloc_old' (heap_alloc_new w _)))
  have HB1 := Lib.hid (show (((w.alloc (.cells #[.int .i64 T.pf, .int .i64 T.pl, .slice A N ca, .slice E M ce] 31)).alloc (.cells #[.int .i64 5, .int .i64 (k : Int), .int .i64 0, .int .i64 0, .int .i64 0, .string ⟨#[]⟩] 108)).alloc (.cells #[.int .i64 0, .int .i64 0, .slice none 0 0, .slice none 0 0] 31)).heap[w.heap.size + 1]? = some (.cells #[.int .i64 5, .int .i64 (k : Int), .int .i64 0, .int .i64 0, .int .i64 0, .string ⟨#[]⟩] 108 (0, 0)) from alloc_old' (by simpa using heap_alloc_new (w.alloc (.cells #[.int .i64 T.pf, .int .i64 T.pl, .slice A N ca, .slice E M ce] 31)) (.cells #[.int .i64 5, .int .i64 (k : Int), .int .i64 0, .int .i64 0, .int .i64 0, .string ⟨#[]⟩] 108)))
  have HB2 := Lib.hid (show (((w.alloc (.cells #[.int .i64 T.pf, .int .i64 T.pl, .slice A N ca, .slice E M ce] 31)).alloc (.cells #[.int .i64 5, .int .i64 (k : Int), .int .i64 0, .int .i64 0, .int .i64 0, .string ⟨#[]⟩] 108)).alloc (.cells #[.int .i64 0, .int .i64 0, .slice none 0 0, .slice none 0 0] 31)).heap[w.heap.size + 1 + 1]? = some (.cells #[.int .i64 0, .int .i64 0, .slice none 0 0, .slice none 0 0] 31 (0, 0)) from by simpa using heap_alloc_new ((w.alloc (.cells #[.int .i64 T.pf, .int .i64 T.pl, .slice A N ca, .slice E M ce] 31)).alloc (.cells #[.int .i64 5, .int .i64 (k : Int), .int .i64 0, .int .i64 0, .int .i64 0, .string ⟨#[]⟩] 108)) (.cells #[.int .i64 0, .int .i64 0, .slice none 0 0, .slice none 0 0] 31))
  go_enter Tryd.func50, Tryd.ntmps50
  go_upto_region 1 with (fail)
  obtain ⟨w1, hw1⟩ : ∃ W : World, (((w.alloc (.cells #[.int .i64 T.pf, .int .i64 T.pl, .slice A N ca, .slice E M ce] 31)).alloc (.cells #[.int .i64 5, .int .i64 (k : Int), .int .i64 0, .int .i64 0, .int .i64 0, .string ⟨#[]⟩] 108)).alloc (.cells #[.int .i64 0, .int .i64 0, .slice none 0 0, .slice none 0 0] 31)) = W := ⟨_, rfl⟩
  obtain ⟨q, hq⟩ : ∃ q, w.heap.size = q := ⟨_, rfl⟩
  have HSZ := Lib.hid (show w1.heap.size = q + 1 + 1 + 1 by rw [← hw1, ← hq]; simp)
  rw [hw1] at HK HB0 HB1 HB2
  rw [hq] at HB0 HB1 HB2
  rw [hw1, hq]
  have HQ := Lib.hid hq
  clear hw1 hq
  have HT1 := Lib.hid (HT0.out.quiet HK.out)
  have d0 := (blk_cell HB0.out 0).trans rfl
  have d1 := (blk_cell HB0.out 1).trans rfl
  have d2 := (blk_cell HB0.out 2).trans rfl
  have d3 := (blk_cell HB0.out 3).trans rfl
  go_wp2_with fail
  ((with_reducible refine (HRR.out _ HT1.out).mono ?_); rintro ee w2 ⟨rfl, hk2⟩)
  have b20 := (hk2.block q (by have := HSZ.out; omega) (by have := HSZ.out; omega)).trans HB0.out
  have b21 := (hk2.block (q + 1) (by have := HSZ.out; omega) (by have := HSZ.out; omega)).trans HB1.out
  have HB20 := Lib.hid b20
  have HB21 := Lib.hid b21
  have HK2 := Lib.hid hk2
  have HT2 := Lib.hid (HT1.out.since hk2)
  have d0 := (blk_cell b20 0).trans rfl
  have d1 := (blk_cell b20 1).trans rfl
  have d2 := (blk_cell b20 2).trans rfl
  have d3 := (blk_cell b20 3).trans rfl
  have r0 := (blk_cell b21 0).trans rfl
  have r1 := (blk_cell b21 1).trans rfl
  clear hk2 b20 b21
  go_wp2_with fail
  ((with_reducible refine (HCP.out _ HT2.out).mono ?_); rintro ee w3 ⟨A3, ca3, E3, ce3, R3, X3, rfl, hta, hlo, hk3⟩)
  have HK3 := Lib.hid (show Since w1.heap.size w1 w3 from Keep.trans HK2.out (Since.mono hk3 HK2.out.size))
  have HT3 := Lib.hid hta
  have HLO := Lib.hid hlo
  clear hk3 hta hlo d0 d1 d2 d3 r0 r1
  go_upto_region 6 with (fail)
  have hk4 := (Keep.refl (fun _ => False) w3).alloc' (.cells #[.int .i64 T.pf, .int .i64 T.pl, .slice A3 N ca3, .slice E3 M ce3] 31)
  have hb4 := heap_alloc_new w3 (.cells #[.int .i64 T.pf, .int .i64 T.pl, .slice A3 N ca3, .slice E3 M ce3] 31)
  obtain ⟨w4, hw4⟩ : ∃ W : World, w3.alloc (.cells #[.int .i64 T.pf, .int .i64 T.pl, .slice A3 N ca3, .slice E3 M ce3] 31) = W := ⟨_, rfl⟩
  obtain ⟨q4, hq4⟩ : ∃ q4, w3.heap.size = q4 := ⟨_, rfl⟩
  rw [hw4] at hk4 hb4
  rw [hq4] at hb4
  rw [hw4, hq4]
  have HQ4 := Lib.hid hq4
  have HB4 := Lib.hid hb4
  have HT4 := Lib.hid (HT3.out.quiet hk4)
  have HK4 := Lib.hid (show Since w1.heap.size w1 w4 from Keep.trans HK3.out (Since.of hk4))
  have b41 := (HK4.out.block (q + 1) (by have := HSZ.out; omega) (by have := HSZ.out; omega)).trans HB1.out
  have HB42 := Lib.hid ((HK4.out.block (q + 1 + 1) (by have := HSZ.out; omega) (by have := HSZ.out; omega)).trans HB2.out)
  obtain ⟨g, rfl, ⟨cur, hcur⟩, hx, hm, hc⟩ := HT4.out.cellsI HKL.out
  have HCU := Lib.hid hcur
  have hsh := HR.out.good.shape k HKL.out
  have z0 : w4.cell? ⟨g, k * 14, none⟩ = some (.int .i64 (T.at_ k).op) := (hc 0 (by omega)).trans (by rw [← hx]; rfl)
  have z13 : w4.cell? ⟨g, k * 14 + 13, none⟩ = some (.bool (T.at_ k).once) := (hc 13 (by omega)).trans (by rw [← hx]; rfl)
  have f13 := blk_free hcur (k * 14 + 13)
  have r0 := (blk_cell b41 0).trans rfl
  have r1 := (blk_cell b41 1).trans rfl
  have d2 := (blk_cell hb4 2).trans rfl
  have HRO := Lib.hid (fun hro => HR.out.setOnce HKL.out hro)
  have HTS := Lib.hid (HT4.out.setOnce HKL.out rfl)
  have HKS := Lib.hid (keep_set (Keep.refl (fun b => b = g) w4) (k * 14 + 13) (.bool true))
  have hgq : g ≠ q4 := by
    rintro rfl
    rw [hb4] at hcur
    injection hcur with h9
    injection h9 with _ h9
    exact absurd h9 (by decide)
  have hgq2 : g ≠ q + 1 + 1 := by
    rintro rfl
    rw [HB42.out] at hcur
    injection hcur with h9
    injection h9 with _ h9
    exact absurd h9 (by decide)
  have HG := Lib.hid (show w1.heap.size ≤ g from Nat.le_trans HK2.out.size (HLO.out _ rfl))
  have HRP := Lib.hid (fun W => repeats_any (T.at_ k).op W)
  obtain ⟨op, ho⟩ : ∃ op, (T.at_ k).op = op := ⟨_, rfl⟩
  obtain ⟨on, hon⟩ : ∃ on, (T.at_ k).once = on := ⟨_, rfl⟩
  obtain ⟨rp, hrp⟩ : ∃ rp, repeatsOp op = rp := ⟨_, rfl⟩
  rw [ho] at z0 HRP HRO
  rw [hon] at z13
  rw [hrp] at HRP HRO
  clear hx hm hc hcur hsh hk4 hb4 hw4 hq4 b41 ho hon hrp
  have HZ := Lib.hid ((HKS.out.block (q + 1 + 1) (blk_lt HB42.out) (fun e => hgq2 e.symm)).trans HB42.out)
  have HO9 := Lib.hid ((HKS.out.block q4 (blk_lt HB4.out) (fun e => hgq e.symm)).trans HB4.out)
  have HKW := Lib.hid (show Since w.heap.size w (w4.setCell ⟨g, k * 14 + 13, none⟩ (.bool true)) from Keep.trans (Since.of HK.out) (Keep.trans (Since.mono HK4.out HK.out.size) (Keep.mono HKS.out (fun b e => by have h1 := HG.out; have h2 := HK.out.size; omega))))
  have HRR2 := Lib.hid (show ∀ W, TA W (some ⟨g, 0, none⟩) ca3 E3 ce3 (R3.set k { R3.getD k RI.dflt with x := (R3.getD k RI.dflt).x.setOnce }) X3 (T.setOnce k) → RightT P (T.setOnce k) → Calls Tryd.prog 31 #[.agg #[.int .i64 T.pf, .int .i64 T.pl, .slice (some ⟨g, 0, none⟩) N ca3, .slice E3 M ce3]] W (fun e w' => e = .returned (.int .i64 0) ∧ Since W.heap.size W w') from fun W hW hr2 => by
    have h9 := rright_any hW hr2
    unfold trV at h9
    rw [show (T.setOnce k).ins.length = N by rw [once_len, HN.out], show (T.setOnce k).exits.length = M from HMM.out] at h9
    exact h9)
  by_cases hok : rp = true ∧ on = false
  · obtain ⟨rfl, rfl⟩ := hok
    have HR2 := Lib.hid (HRO.out rfl)
    go_wp2_with fail
    ((with_reducible refine (HRP.out _).mono ?_); rintro ee w' ⟨rfl, rfl⟩)
    go_upto_region 30 with (fail)
    obtain ⟨w5, hw5⟩ : ∃ W : World, w4.setCell ⟨g, k * 14 + 13, none⟩ (.bool true) = W := ⟨_, rfl⟩
    rw [hw5] at HZ HO9 HKW HTS
    rw [hw5]
    clear z0 z13 f13 r0 r1 d2 hw5 HKS
    have e0 := (blk_cell HO9.out 0).trans rfl
    have e1 := (blk_cell HO9.out 1).trans rfl
    have e2 := (blk_cell HO9.out 2).trans rfl
    have e3 := (blk_cell HO9.out 3).trans rfl
    go_wp2_with fail
    ((with_reducible refine (HRR2.out _ HTS.out HR2.out).mono ?_); rintro ee w6 ⟨rfl, hk6⟩)
    have hO := (hk6.block q4 (blk_lt HO9.out) (Nat.not_le_of_lt (blk_lt HO9.out))).trans HO9.out
    have hZ := (hk6.block (q + 1 + 1) (blk_lt HZ.out) (Nat.not_le_of_lt (blk_lt HZ.out))).trans HZ.out
    have HT6 := Lib.hid (HTS.out.since hk6)
    have HK6 := Lib.hid (Keep.trans HKW.out (Since.mono hk6 HKW.out.size))
    have HZ6 := Lib.hid hZ
    have e0 := (blk_cell hO 0).trans rfl
    have e1 := (blk_cell hO 1).trans rfl
    have e2 := (blk_cell hO 2).trans rfl
    have e3 := (blk_cell hO 3).trans rfl
    have s0 := (blk_cell hZ 0).trans rfl
    have s1 := (blk_cell hZ 1).trans rfl
    have s2 := (blk_cell hZ 2).trans rfl
    have s3 := (blk_cell hZ 3).trans rfl
    have t0 := blk_free hZ 0
    have t1 := blk_free hZ 1
    have t2 := blk_free hZ 2
    have t3 := blk_free hZ 3
    clear hO hZ hk6
    go_wp2_with fail
    have hfin := blk_set (blk_set (blk_set (blk_set HZ6.out 0 (.int .i64 T.pf)) 1 (.int .i64 T.pl)) 2 (.slice (some ⟨g, 0, none⟩) N ca3)) 3 (.slice E3 M ce3)
    simp only [List.setIfInBounds_toArray, List.set_cons_zero, List.set_cons_succ] at hfin
    have hk9 := keep_set (keep_set (keep_set (keep_set (Keep.refl (fun b => b = q + 1 + 1) w6) 0 (.int .i64 T.pf)) 1 (.int .i64 T.pl)) 2 (.slice (some ⟨g, 0, none⟩) N ca3)) 3 (.slice E3 M ce3)
    refine bodyPost_ret (results_row_tmp2 (ty := 31) rfl _ _ (q + 1 + 1) _ _ _ _ rfl hfin Tryd.underlying31 rfl (by kernel_rfl)) rfl ?_
    refine ⟨Keep.trans HK6.out (Keep.mono hk9 (fun b e => by have := HQ.out; omega)), .inl ⟨_, _, _, _, _, _, rfl, HT6.out.keepq hk9 (fun g' cur t ht hg e => by subst e; rw [HZ6.out] at hg; injection hg with hg; injection hg with _ hg; exact ht hg.symm), HR2.out⟩⟩
  · have HNO := Lib.hid hok
    cases rp with
    | true =>
      cases on with
      | false => exact absurd ⟨rfl, rfl⟩ hok
      | true =>
        clear hok
        go_wp2_with fail
        ((with_reducible refine (HRP.out _).mono ?_); rintro ee w' ⟨rfl, rfl⟩)
        go_upto_region 30 with (fail)
        obtain ⟨w5, hw5⟩ : ∃ W : World, w4.setCell ⟨g, k * 14 + 13, none⟩ (.bool true) = W := ⟨_, rfl⟩
        rw [hw5] at HZ HKW
        rw [hw5]
        clear z0 z13 f13 r0 r1 d2 hw5 HKS
        have s0 := (blk_cell HZ.out 0).trans rfl
        have s1 := (blk_cell HZ.out 1).trans rfl
        have s2 := (blk_cell HZ.out 2).trans rfl
        have s3 := (blk_cell HZ.out 3).trans rfl
        have t0 := blk_free HZ.out 0
        have t1 := blk_free HZ.out 1
        have t2 := blk_free HZ.out 2
        have t3 := blk_free HZ.out 3
        go_wp2_with fail
        have hfin := blk_set (blk_set (blk_set (blk_set HZ.out 0 (.int .i64 0)) 1 (.int .i64 0)) 2 (.slice none 0 0)) 3 (.slice none 0 0)
        simp only [List.setIfInBounds_toArray, List.set_cons_zero, List.set_cons_succ] at hfin
        have hk9 := keep_set (keep_set (keep_set (keep_set (Keep.refl (fun b => b = q + 1 + 1) w5) 0 (.int .i64 0)) 1 (.int .i64 0)) 2 (.slice none 0 0)) 3 (.slice none 0 0)
        refine bodyPost_ret (results_row_tmp2 (ty := 31) rfl _ _ (q + 1 + 1) _ _ _ _ rfl hfin Tryd.underlying31 rfl (by kernel_rfl)) rfl ?_
        exact ⟨Keep.trans HKW.out (Keep.mono hk9 (fun b e => by have := HQ.out; omega)), .inr rfl⟩
    | false =>
      clear hok
      go_wp2_with fail
      ((with_reducible refine (HRP.out _).mono ?_); rintro ee w' ⟨rfl, rfl⟩)
      go_upto_region 30 with (fail)
      obtain ⟨w5, hw5⟩ : ∃ W : World, w4.setCell ⟨g, k * 14 + 13, none⟩ (.bool true) = W := ⟨_, rfl⟩
      rw [hw5] at HZ HKW
      rw [hw5]
      clear z0 z13 f13 r0 r1 d2 hw5 HKS
      have s0 := (blk_cell HZ.out 0).trans rfl
      have s1 := (blk_cell HZ.out 1).trans rfl
      have s2 := (blk_cell HZ.out 2).trans rfl
      have s3 := (blk_cell HZ.out 3).trans rfl
      have t0 := blk_free HZ.out 0
      have t1 := blk_free HZ.out 1
      have t2 := blk_free HZ.out 2
      have t3 := blk_free HZ.out 3
      go_wp2_with fail
      have hfin := blk_set (blk_set (blk_set (blk_set HZ.out 0 (.int .i64 0)) 1 (.int .i64 0)) 2 (.slice none 0 0)) 3 (.slice none 0 0)
      simp only [List.setIfInBounds_toArray, List.set_cons_zero, List.set_cons_succ] at hfin
      have hk9 := keep_set (keep_set (keep_set (keep_set (Keep.refl (fun b => b = q + 1 + 1) w5) 0 (.int .i64 0)) 1 (.int .i64 0)) 2 (.slice none 0 0)) 3 (.slice none 0 0)
      refine bodyPost_ret (results_row_tmp2 (ty := 31) rfl _ _ (q + 1 + 1) _ _ _ _ rfl hfin Tryd.underlying31 rfl (by kernel_rfl)) rfl ?_
      exact ⟨Keep.trans HKW.out (Keep.mono hk9 (fun b e => by have := HQ.out; omega)), .inr rfl⟩
end
end Go.Proofs.YtnbpgipbfejllaaDoor
/- Trace, the reference's of regs. -/
namespace Go.Proofs.YtnbpgipbfejllaaDoor
open Go.RowKit Go.Lib
set_option linter.unusedVariables false
set_option linter.unusedSimpArgs false

/-- A trace in a variable. -/
structure TV (w3 : World) (q5 P N M : Nat) (wr : World) (T : TR) (A : Option Addr) (ca : Nat) (E : Option Addr) (ce : Nat) (R : List RI) (X : List RX) : Prop where
  blk : wr.heap[q5]? = some (.cells #[.int .i64 T.pf, .int .i64 T.pl, .slice A N ca, .slice E M ce] 31 (0, 0))
  ta : TA wr A ca E ce R X T
  right : RightT P T
  len : T.ins.length = N
  lex : T.exits.length = M
  keep : Keep (fun b => b = q5 ∨ w3.heap.size ≤ b) w3 wr
theorem TV.later {w3 : World} {q5 P N M : Nat} {wr w' : World} {T : TR} {A : Option Addr} {ca : Nat} {E : Option Addr} {ce : Nat} {R : List RI} {X : List RX} (h : TV w3 q5 P N M wr T A ca E ce R X) (hk : Since wr.heap.size wr w') : TV w3 q5 P N M w' T A ca E ce R X :=
  ⟨(hk.block q5 (blk_lt h.blk) (Nat.not_le_of_lt (blk_lt h.blk))).trans h.blk, h.ta.since hk, h.right, h.len, h.lex, Keep.trans h.keep (Keep.mono hk (fun b e => .inr (Nat.le_trans h.keep.size e)))⟩
set_option maxRecDepth 100000 in
set_option maxHeartbeats 16000000 in
theorem trace_any (W : World) {A : Option Addr} {nl cl : Nat} {xs : List Int} (hA : IntsAt W A nl xs) (hnl : nl ≤ 140737488351232) (once : Int) :
    Calls Tryd.prog 27 #[.slice A nl cl, .int .i64 once] W fun e w' => ∃ (v : Value) (P : Nat) (T : TR), e = .returned v ∧ RightT P T ∧ TraceAt w' v T ∧ Since W.heap.size W w' := by
  have HK0 := Lib.hid ((Keep.refl (fun _ => False) W).alloc' (.cells #[.int .i64 0, .int .i64 0, .slice none 0 0, .slice none 0 0] 31))
  have HB0 := Lib.hid (heap_alloc_new W (.cells #[.int .i64 0, .int .i64 0, .slice none 0 0, .slice none 0 0] 31))
  have HMD := Lib.hid (made_any (W.alloc (.cells #[.int .i64 0, .int .i64 0, .slice none 0 0, .slice none 0 0] 31)) (cl := cl) (CellsAt.keep hA HK0.out (fun _ _ => id)) hnl)
  clear hA hnl
  go_enter Tryd.func27, Tryd.ntmps27
  go_upto_region 1 with (fail)
  obtain ⟨w1, hw1⟩ : ∃ V : World, W.alloc (.cells #[.int .i64 0, .int .i64 0, .slice none 0 0, .slice none 0 0] 31) = V := ⟨_, rfl⟩
  obtain ⟨q, hq⟩ : ∃ q, W.heap.size = q := ⟨_, rfl⟩
  have HS1 := Lib.hid (show w1.heap.size = q + 1 by rw [← hw1, ← hq]; simp)
  rw [hw1] at HK0 HB0 HMD
  rw [hq] at HB0
  rw [hw1, hq]
  have HQ := Lib.hid hq
  clear hw1 hq
  go_wp2_with fail
  ((with_reducible refine HMD.out.mono ?_); rintro ee w2 ⟨v, P, T, rfl, hR, hta, hk2⟩)
  obtain ⟨A, ca, E, ce, R, X, rfl, hta2⟩ := hta.opened
  obtain ⟨N, hN⟩ : ∃ N, T.ins.length = N := ⟨_, rfl⟩
  obtain ⟨M, hM⟩ : ∃ M, T.exits.length = M := ⟨_, rfl⟩
  have HR := Lib.hid hR
  have HTA := Lib.hid hta2
  have HK2 := Lib.hid hk2
  have HN := Lib.hid hN
  have HMM := Lib.hid hM
  unfold trV
  rw [hN, hM]
  clear hR hta hta2 hk2 hN hM HMD
  go_upto_region 2 with (fail)
  have hk3 := (Keep.refl (fun _ => False) w2).alloc' (.cells #[.int .i64 T.pf, .int .i64 T.pl, .slice A N ca, .slice E M ce] 31)
  have hb3 := heap_alloc_new w2 (.cells #[.int .i64 T.pf, .int .i64 T.pl, .slice A N ca, .slice E M ce] 31)
  obtain ⟨w3, hw3⟩ : ∃ V : World, w2.alloc (.cells #[.int .i64 T.pf, .int .i64 T.pl, .slice A N ca, .slice E M ce] 31) = V := ⟨_, rfl⟩
  obtain ⟨q5, hq5⟩ : ∃ q5, w2.heap.size = q5 := ⟨_, rfl⟩
  rw [hw3] at hk3 hb3
  rw [hq5] at hb3
  rw [hw3, hq5]
  have HQ5 := Lib.hid hq5
  have HZ3 := Lib.hid ((hk3.block q (by have := HK2.out.size; have := HS1.out; omega) id).trans ((HK2.out.block q (by have := HS1.out; omega) (by have := HS1.out; omega)).trans HB0.out))
  have HK3 := Lib.hid (show Since W.heap.size W w3 from Keep.trans (Since.of HK0.out) (Keep.trans (Since.mono HK2.out HK0.out.size) (Since.of hk3)))
  have HV3 := Lib.hid (show TV w3 q5 P N M w3 T A ca E ce R X from ⟨by rw [← HN.out, ← HMM.out]; rw [← HN.out, ← HMM.out] at hb3; exact hb3, HTA.out.quiet hk3, HR.out, HN.out, HMM.out, Keep.refl _ _⟩)
  have HPF := Lib.hid (show T.pf = 0 ∧ T.pl = 0 from HR.out.good.place)
  have hn60 : N ≤ 60 := by rw [← HN.out]; exact HR.out.few
  have HQ35 := Lib.hid (show q < q5 ∧ q5 < w3.heap.size from ⟨by have := HK2.out.size; have := HS1.out; have := HQ5.out; omega, blk_lt hb3⟩)
  clear hk3 hb3 hw3 hq5 HR HTA HN HMM
  go_wp2_with fail
  go_loopw [6] (fun i wr => ∃ k : Nat, k ≤ N ∧ i = .int .i64 (k : Int) ∧ ∃ (T : TR) (A : Option Addr) (ca : Nat) (E : Option Addr) (ce : Nat) (R : List RI) (X : List RX), Hid (TV w3 q5 P N M wr T A ca E ce R X)) (fun i _ => N + 1 - (RowKit.intOf i).toNat)
  case atStart => exact ⟨0, Nat.zero_le _, rfl, T, A, ca, E, ce, R, X, HV3⟩
  case round =>
    obtain ⟨k, hk, rfl, T2, A2, ca2, E2, ce2, R2, X2, VV⟩ := hrel
    obtain ⟨wo, rfl⟩ : ∃ wo : World, wo = wr := ⟨_, rfl⟩
    have d0 := (blk_cell VV.out.blk 0).trans rfl
    have d1 := (blk_cell VV.out.blk 1).trans rfl
    have d2 := (blk_cell VV.out.blk 2).trans rfl
    have d3 := (blk_cell VV.out.blk 3).trans rfl
    by_cases hlt : k < N
    · have hb1 : decide (k < N) = true := by simpa using hlt
      have HKL := Lib.hid (show k < T2.ins.length by rw [VV.out.len]; exact hlt)
      have HRW := Lib.hid (rewrite_any VV.out.ta VV.out.right HKL.out)
      unfold trV at HRW
      rw [show (T2.setOnce k).ins.length = N by rw [once_len, VV.out.len], show (T2.setOnce k).exits.length = M from VV.out.lex, VV.out.len, VV.out.lex] at HRW
      go_upto_region 6 with (fail)
      case roundEnd => exact ⟨⟨k + 1, by omega, by go_num, _, _, _, _, _, _, _, VV⟩, by simp [RowKit.intOf]; omega⟩
      go_wp2_with fail
      refine HRW.out.mono ?_
      rintro ee w4 ⟨hk4, hor⟩
      have HK4 := Lib.hid hk4
      rcases hor with ⟨A4, ca4, E4, ce4, R4, X4, rfl, hta4, hr4⟩ | rfl
      · have HTA4 := Lib.hid hta4
        have HR4 := Lib.hid hr4
        clear hk4 hta4 hr4 d0 d1 d2 d3
        go_upto_region 7 with (fail)
        have hk5 := (Keep.refl (fun _ => False) w4).alloc' (.cells #[.int .i64 (T2.setOnce k).pf, .int .i64 (T2.setOnce k).pl, .slice A4 N ca4, .slice E4 M ce4] 31)
        have hb5 := heap_alloc_new w4 (.cells #[.int .i64 (T2.setOnce k).pf, .int .i64 (T2.setOnce k).pl, .slice A4 N ca4, .slice E4 M ce4] 31)
        obtain ⟨w5, hw5⟩ : ∃ V : World, w4.alloc (.cells #[.int .i64 (T2.setOnce k).pf, .int .i64 (T2.setOnce k).pl, .slice A4 N ca4, .slice E4 M ce4] 31) = V := ⟨_, rfl⟩
        obtain ⟨q7, hq7⟩ : ∃ q7, w4.heap.size = q7 := ⟨_, rfl⟩
        rw [hw5] at hk5 hb5
        rw [hq7] at hb5
        rw [hw5, hq7]
        have HQ7 := Lib.hid hq7
        have HB5 := Lib.hid hb5
        have HK5 := Lib.hid (show Since wo.heap.size wo w5 from Keep.trans HK4.out (Since.of hk5))
        have HTA5 := Lib.hid (HTA4.out.quiet hk5)
        have HV5 := Lib.hid (VV.out.later HK5.out)
        have HCN := Lib.hid (const22_any HV5.out.ta HV5.out.right HKL.out)
        unfold trV at HCN
        rw [HV5.out.len, HV5.out.lex] at HCN
        have d0 := (blk_cell HV5.out.blk 0).trans rfl
        have d1 := (blk_cell HV5.out.blk 1).trans rfl
        have d2 := (blk_cell HV5.out.blk 2).trans rfl
        have d3 := (blk_cell HV5.out.blk 3).trans rfl
        clear hk5 hb5 hw5 hq7 HRW
        go_wp2_with fail
        ((with_reducible refine HCN.out.mono ?_); rintro ee w6 ⟨⟨b, rfl⟩, hk6⟩)
        have HK6 := Lib.hid hk6
        have HV6 := Lib.hid (HV5.out.later (Since.of hk6))
        have HB6 := Lib.hid ((hk6.block q7 (blk_lt HB5.out) id).trans HB5.out)
        have HTA6 := Lib.hid (HTA5.out.quiet hk6)
        clear hk6 d0 d1 d2 d3 HCN
        cases b with
        | false =>
          go_wp2_with fail
          exact ⟨⟨k + 1, by omega, by go_num, _, _, _, _, _, _, _, HV6⟩, by simp [RowKit.intOf]; omega⟩
        | true =>
          have s0 := (blk_cell HB6.out 0).trans rfl
          have s1 := (blk_cell HB6.out 1).trans rfl
          have s2 := (blk_cell HB6.out 2).trans rfl
          have s3 := (blk_cell HB6.out 3).trans rfl
          have d0 := (blk_cell HV6.out.blk 0).trans rfl
          have d1 := (blk_cell HV6.out.blk 1).trans rfl
          have d2 := (blk_cell HV6.out.blk 2).trans rfl
          have d3 := (blk_cell HV6.out.blk 3).trans rfl
          have f0 := blk_free HV6.out.blk 0
          have f1 := blk_free HV6.out.blk 1
          have f2 := blk_free HV6.out.blk 2
          have f3 := blk_free HV6.out.blk 3
          go_wp2_with fail
          have hfin := blk_set (blk_set (blk_set (blk_set HV6.out.blk 0 (.int .i64 (T2.setOnce k).pf)) 1 (.int .i64 (T2.setOnce k).pl)) 2 (.slice A4 N ca4)) 3 (.slice E4 M ce4)
          simp only [List.setIfInBounds_toArray, List.set_cons_zero, List.set_cons_succ] at hfin
          have hk9 := keep_set (keep_set (keep_set (keep_set (Keep.refl (fun b => b = q5) w6) 0 (.int .i64 (T2.setOnce k).pf)) 1 (.int .i64 (T2.setOnce k).pl)) 2 (.slice A4 N ca4)) 3 (.slice E4 M ce4)
          have HNV := Lib.hid (show TV w3 q5 P N M _ (T2.setOnce k) A4 ca4 E4 ce4 R4 X4 from ⟨hfin, HTA6.out.keepq hk9 (fun g' cur t ht hg e => by subst e; rw [HV6.out.blk] at hg; injection hg with hg; injection hg with _ hg; exact ht hg.symm), HR4.out, by rw [once_len, HV6.out.len], HV6.out.lex, Keep.trans HV6.out.keep (Keep.mono hk9 (fun b e => .inl e))⟩)
          exact ⟨⟨k + 1, by omega, by go_num, _, _, _, _, _, _, _, HNV⟩, by simp [RowKit.intOf]; omega⟩
      · have HV4 := Lib.hid (VV.out.later HK4.out)
        clear hk4 d0 d1 d2 d3 HRW
        unfold Z4
        go_upto_region 7 with (fail)
        have HV5 := Lib.hid (HV4.out.later (Since.of ((Keep.refl (fun _ => False) w4).alloc' (.cells #[.int .i64 0, .int .i64 0, .slice none 0 0, .slice none 0 0] 31))))
        go_wp2_with fail
        exact ⟨⟨k + 1, by omega, by go_num, _, _, _, _, _, _, _, HV5⟩, by simp [RowKit.intOf]; omega⟩
    · have hb1 : decide (k < N) = false := by simpa using hlt
      have HZ9 := Lib.hid ((VV.out.keep.block q (by have := HQ35.out; omega) (by have := HQ35.out; omega)).trans HZ3.out)
      have e0 := (blk_cell HZ9.out 0).trans rfl
      have e1 := (blk_cell HZ9.out 1).trans rfl
      have e2 := (blk_cell HZ9.out 2).trans rfl
      have e3 := (blk_cell HZ9.out 3).trans rfl
      have f0 := blk_free HZ9.out 0
      have f1 := blk_free HZ9.out 1
      have f2 := blk_free HZ9.out 2
      have f3 := blk_free HZ9.out 3
      go_wp2_with fail
      have hfin := blk_set (blk_set (blk_set (blk_set HZ9.out 0 (.int .i64 T2.pf)) 1 (.int .i64 T2.pl)) 2 (.slice A2 N ca2)) 3 (.slice E2 M ce2)
      simp only [List.setIfInBounds_toArray, List.set_cons_zero, List.set_cons_succ] at hfin
      have hk9 := keep_set (keep_set (keep_set (keep_set (Keep.refl (fun b => b = q) wo) 0 (.int .i64 T2.pf)) 1 (.int .i64 T2.pl)) 2 (.slice A2 N ca2)) 3 (.slice E2 M ce2)
      refine bodyPost_ret (results_cell_row rfl _ _ q _ _ _ _ rfl hfin Tryd.underlying31 rfl (by kernel_rfl)) rfl ?_
      have hta9 := VV.out.ta.keepq hk9 (fun g' cur t ht hg e => by subst e; rw [HZ9.out] at hg; injection hg with hg; injection hg with _ hg; exact ht hg.symm)
      refine ⟨_, P, T2, rfl, VV.out.right, ⟨A2, ca2, E2, ce2, R2, X2, by rw [hta9.lenR, hta9.lenX, VV.out.len, VV.out.lex], hta9.lieR, hta9.lieX, hta9.fitR, hta9.fitX, hta9.ins, hta9.exits, hta9.offA, hta9.offE⟩, ?_⟩
      exact Keep.trans HK3.out (Keep.trans (Keep.mono VV.out.keep (fun b e => by have h1 := HQ35.out; have h2 := HQ.out; have h3 := HK3.out.size; omega)) (Keep.mono hk9 (fun b e => by have := HQ.out; omega)))
end Go.Proofs.YtnbpgipbfejllaaDoor
/- The parts of a case. -/
namespace Go.Proofs.YtnbpgipbfejllaaDoor
open Go.RowKit Go.Lib
set_option linter.unusedVariables false
set_option linter.unusedSimpArgs false

set_option maxRecDepth 100000 in
set_option maxHeartbeats 8000000 in
theorem parts_any (W : World) {A : Option Addr} {nl cl : Nat} {xs : List Int} (hA : IntsAt W A nl xs) (hnl : nl ≤ 140737488351232) (once : Int) (n : Nat) (hn : n < 256) :
    Calls Tryd.prog 11 #[.agg #[.slice A nl cl, .int .i64 once, .int .u8 (n : Int)]] W fun e w' => ∃ (v : Value) (P : Nat) (T : TR), e = .returned (.tuple #[v, .int .i64 (1 + ((n % 16 : Nat) : Int))]) ∧ RightT P T ∧ TraceAt w' v T ∧ Since W.heap.size W w' := by
  have HK := Lib.hid (((Keep.refl (fun _ => False) W).alloc' (.cells #[.slice A nl cl, .int .i64 once, .int .u8 (n : Int)] 24)).alloc' (.cells #[.int .i64 0, .int .i64 0, .slice none 0 0, .slice none 0 0] 31))
  have HB0 := Lib.hid (show (((W.alloc (.cells #[.slice A nl cl, .int .i64 once, .int .u8 (n : Int)] 24)).alloc (.cells #[.int .i64 0, .int .i64 0, .slice none 0 0, .slice none 0 0] 31))).heap[W.heap.size]? = some (.cells #[.slice A nl cl, .int .i64 once, .int .u8 (n : Int)] 24 (0, 0)) from alloc_old' (heap_alloc_new W _))
  have HB1 := Lib.hid (show (((W.alloc (.cells #[.slice A nl cl, .int .i64 once, .int .u8 (n : Int)] 24)).alloc (.cells #[.int .i64 0, .int .i64 0, .slice none 0 0, .slice none 0 0] 31))).heap[W.heap.size + 1]? = some (.cells #[.int .i64 0, .int .i64 0, .slice none 0 0, .slice none 0 0] 31 (0, 0)) from by simpa using heap_alloc_new (W.alloc (.cells #[.slice A nl cl, .int .i64 once, .int .u8 (n : Int)] 24)) (.cells #[.int .i64 0, .int .i64 0, .slice none 0 0, .slice none 0 0] 31))
  go_enter Tryd.func11, Tryd.ntmps11
  go_upto_region 1 with (fail)
  obtain ⟨w1, hw1⟩ : ∃ V : World, ((W.alloc (.cells #[.slice A nl cl, .int .i64 once, .int .u8 (n : Int)] 24)).alloc (.cells #[.int .i64 0, .int .i64 0, .slice none 0 0, .slice none 0 0] 31)) = V := ⟨_, rfl⟩
  obtain ⟨q, hq⟩ : ∃ q, W.heap.size = q := ⟨_, rfl⟩
  have HSZ := Lib.hid (show w1.heap.size = q + 1 + 1 by rw [← hw1, ← hq]; simp)
  rw [hw1] at HK HB0 HB1
  rw [hq] at HB0 HB1
  rw [hw1, hq]
  have HQ := Lib.hid hq
  have HTC := Lib.hid (fun W' (hk : Keep (fun _ => False) w1 W') => trace_any W' (cl := cl) (CellsAt.keep hA (Keep.trans HK.out hk) (fun _ _ => id)) hnl once)
  clear hw1 hq hA hnl
  have hm1 : IntKind.i64.wrap ((n : Int).tmod 16) = ((n % 16 : Nat) : Int) := by
    rw [show (n : Int).tmod 16 = ((n % 16 : Nat) : Int) from by rw [Int.tmod_eq_emod_of_nonneg (by omega)]; omega, IntKind.wrap_i64]; omega
  have hm2 : IntKind.i64.wrap (1 + ((n % 16 : Nat) : Int)) = 1 + ((n % 16 : Nat) : Int) := by rw [IntKind.wrap_i64]; omega
  obtain ⟨nm, hnm⟩ : ∃ nm, n % 16 = nm := ⟨_, rfl⟩
  have HNM := Lib.hid hnm
  rw [hnm] at hm1 hm2
  clear hnm
  have d0 := (blk_cell HB0.out 0).trans rfl
  have d1 := (blk_cell HB0.out 1).trans rfl
  have d2 := (blk_cell HB0.out 2).trans rfl
  go_region_law (go_simp; go_at_call 27; refine (HTC.out _ (keep_draw _ _)).mono ?_; rintro e5 w5 ⟨v, P, T, rfl, hR, hta, hk5⟩; have hk6 := Keep.trans (keep_draw (fun b => w1.heap.size ≤ b) w1) hk5; have b0 := (hk6.block q (by have := HSZ.out; omega) (by have := HSZ.out; omega)).trans HB0.out; have b1 := (hk6.block (q + 1) (by have := HSZ.out; omega) (by have := HSZ.out; omega)).trans HB1.out; obtain ⟨A4, ca4, E4, ce4, R4, X4, rfl, hta4⟩ := hta.opened; unfold trV; have HR := Lib.hid hR; have HTA := Lib.hid hta4; have HK6 := Lib.hid hk6; have HB6 := Lib.hid b1; have c2 := (blk_cell b0 2).trans rfl; have s0 := (blk_cell b1 0).trans rfl; have s1 := (blk_cell b1 1).trans rfl; have s2 := (blk_cell b1 2).trans rfl; have s3 := (blk_cell b1 3).trans rfl; have f0 := blk_free b1 0; have f1 := blk_free b1 1; have f2 := blk_free b1 2; have f3 := blk_free b1 3; clear hk5 hk6 hR hta hta4 b0 b1)
  all_goals try rw [hm1]
  all_goals try rw [hm2]
  all_goals go_wp2_with fail
  all_goals (
    have hfin := blk_set (blk_set (blk_set (blk_set HB6.out 0 (.int .i64 T.pf)) 1 (.int .i64 T.pl)) 2 (.slice A4 T.ins.length ca4)) 3 (.slice E4 T.exits.length ce4)
    simp only [List.setIfInBounds_toArray, List.set_cons_zero, List.set_cons_succ] at hfin
    have hk9 := keep_set (keep_set (keep_set (keep_set (Keep.refl (fun b => b = q + 1) w5) 0 (.int .i64 T.pf)) 1 (.int .i64 T.pl)) 2 (.slice A4 T.ins.length ca4)) 3 (.slice E4 T.exits.length ce4)
    refine bodyPost_ret (results_row_tmp2 (ty := 31) rfl _ _ (q + 1) _ _ _ _ rfl hfin Tryd.underlying31 rfl (by kernel_rfl)) rfl ?_
    refine ⟨_, P, T, by rw [HNM.out]; rfl, HR.out, ?_, ?_⟩
    · have hta9 := HTA.out.keepq hk9 (fun g' cur t ht hg e => by subst e; rw [HB6.out] at hg; injection hg with hg; injection hg with _ hg; exact ht hg.symm)
      exact ⟨A4, ca4, E4, ce4, R4, X4, by rw [hta9.lenR, hta9.lenX], hta9.lieR, hta9.lieX, hta9.fitR, hta9.fitX, hta9.ins, hta9.exits, hta9.offA, hta9.offE⟩
    · exact Keep.trans (Since.of HK.out) (Keep.trans (Keep.mono HK6.out (fun b e => by have := HQ.out; have := HSZ.out; omega)) (Keep.mono hk9 (fun b e => by have := HQ.out; omega))))
end Go.Proofs.YtnbpgipbfejllaaDoor
