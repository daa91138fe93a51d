/- graph: the builder's step, cases [11, 12, 13] -/
import Derived.Test.YtnbpgipbfejllaaDoorMG7x
namespace Go.Proofs.YtnbpgipbfejllaaDoor
open Go.RowKit Go.Lib
set_option linter.unusedVariables false
set_option linter.unusedSimpArgs false

section
variable {n : Nat} {w0 w : World} {p m : Nat} {T : TR} {fu : Int} {pa : Nat} {C : List (Nat × Obj)}
set_option maxRecDepth 100000 in
set_option maxHeartbeats 64000000 in
theorem step_11 (h : BD n w0 p m T fu (pa : Int) C w) (hs : Start pa T) (hfu : 0 ≤ fu ∧ fu ≤ 10) (hl : T.ins.length ≤ 800) (hnx : Calls Tryd.prog 73 #[.pointer (some ⟨m, 0, none⟩), .int .i64 14] w fun e w' => e = .returned (.int .i64 11) ∧ BD n w0 p m T fu (pa : Int) C w') :
    Calls Tryd.prog 76 #[.pointer (some ⟨p, 0, none⟩)] w fun e w' => e = .returned (.tuple #[]) ∧ ∃ T' : TR, Grow pa 4 T T' ∧ BD n w0 p m T' fu (pa : Int) C w' := by
  have HS := Lib.hid hs
  have HFU := Lib.hid hfu
  have HPT := Lib.hid point_any
  obtain ⟨A, ca, E, ce, hpc⟩ := h.pcells
  have q0 := (blk_cell hpc 0).trans rfl
  have HNX := Lib.hid hnx
  clear h hs hfu hpc hnx
  go_enter Tryd.func76, Tryd.ntmps76
  go_wp2_with fail
  ((with_reducible refine HNX.out.mono ?_); rintro ee w1 ⟨rfl, hbd⟩)
  have HB := Lib.hid hbd
  clear hbd HNX q0
  have HVL := Lib.hid (bVal HB.out HS.out)
  clear HB
  go_wp2_with fail
  ((with_reducible refine HVL.out.mono ?_); rintro ee w2 ⟨a, rfl, hv, hbd⟩)
  have HVa := Lib.hid hv
  have HB := Lib.hid hbd
  clear hv hbd HVL
  have HVL := Lib.hid (bVal HB.out HS.out)
  clear HB
  go_wp2_with fail
  ((with_reducible refine HVL.out.mono ?_); rintro ee w3 ⟨b1, rfl, hv, hbd⟩)
  have HVb1 := Lib.hid hv
  have HB := Lib.hid hbd
  clear hv hbd HVL
  go_upto_region 38 with (fail)
  have HLT := Lib.hid HB.out.lt
  have HNB := Lib.hid HB.out.low'
  replace HB := Lib.hid (HB.out.more (.cells #[.int .i64 9, .int .i64 a, .int .i64 b1, .int .i64 0, .int .i64 0, .slice none 0 0, .int .i64 0, .int .i64 0, .string ⟨#[]⟩, .slice none 0 0, .int .i64 0, .int .i64 0, .int .i64 0, .bool false] 60))
  obtain ⟨w4, hw4⟩ : ∃ V : World, w3.alloc (.cells #[.int .i64 9, .int .i64 a, .int .i64 b1, .int .i64 0, .int .i64 0, .slice none 0 0, .int .i64 0, .int .i64 0, .string ⟨#[]⟩, .slice none 0 0, .int .i64 0, .int .i64 0, .int .i64 0, .bool false] 60) = V := ⟨_, rfl⟩
  obtain ⟨b, hb⟩ : ∃ b, w3.heap.size = b := ⟨_, rfl⟩
  rw [hw4, hb] at HB
  rw [hb] at HNB HLT
  rw [hw4]
  try rw [hb]
  have HCB := Lib.hid (show ∀ x ∈ C, x.1 ≠ b from fun x hx => by have := HLT.out x hx; omega)
  clear hw4 hb HLT
  have HLV := Lib.hid (bLeave HB.out HS.out HFU.out)
  obtain ⟨NX, hNX⟩ : ∃ NX, T.exits.length = NX := ⟨_, rfl⟩
  rw [hNX] at HLV
  have HNX := Lib.hid hNX
  clear HB hNX
  go_wp2_with fail
  ((with_reducible refine HLV.out.mono ?_); rintro ee wl ⟨rfl, ex, hex, hbd⟩)
  have HEX := Lib.hid hex
  have HBL := Lib.hid hbd
  have hbb := hbd.at_ (.head _)
  have q12 := (blk_cell hbb 12).trans rfl
  have f12 := blk_free hbb 12
  clear hex hbd hbb HLV
  go_upto_region 39 with (fail)
  have HBP := Lib.hid (HBL.out.put ⟨by decide, by decide, by decide⟩ HCB.out HNB.out 12 (.int .i64 (NX : Int)) (w' := wl))
  obtain ⟨ws, hws⟩ : ∃ ws : World, wl.setCell ⟨b, 12, none⟩ (.int .i64 (NX : Int)) = ws := ⟨_, rfl⟩
  rw [hws] at HBP
  rw [hws]
  clear hws q12 f12 HBL
  have hbs := HBP.out.at_ (.head _)
  have z0 : ws.cell? ⟨b, 0, none⟩ = some (.int .i64 9) := (blk_cell hbs 0).trans rfl
  have z1 : ws.cell? ⟨b, 1, none⟩ = some (.int .i64 a) := (blk_cell hbs 1).trans rfl
  have z2 : ws.cell? ⟨b, 2, none⟩ = some (.int .i64 b1) := (blk_cell hbs 2).trans rfl
  have z3 : ws.cell? ⟨b, 3, none⟩ = some (.int .i64 0) := (blk_cell hbs 3).trans rfl
  have z4 : ws.cell? ⟨b, 4, none⟩ = some (.int .i64 0) := (blk_cell hbs 4).trans rfl
  have z5 : ws.cell? ⟨b, 5, none⟩ = some (.slice none 0 0) := (blk_cell hbs 5).trans rfl
  have z6 : ws.cell? ⟨b, 6, none⟩ = some (.int .i64 0) := (blk_cell hbs 6).trans rfl
  have z7 : ws.cell? ⟨b, 7, none⟩ = some (.int .i64 0) := (blk_cell hbs 7).trans rfl
  have z8 : ws.cell? ⟨b, 8, none⟩ = some (.string ⟨#[]⟩) := (blk_cell hbs 8).trans rfl
  have z9 : ws.cell? ⟨b, 9, none⟩ = some (.slice none 0 0) := (blk_cell hbs 9).trans rfl
  have z10 : ws.cell? ⟨b, 10, none⟩ = some (.int .i64 0) := (blk_cell hbs 10).trans rfl
  have z11 : ws.cell? ⟨b, 11, none⟩ = some (.int .i64 0) := (blk_cell hbs 11).trans rfl
  have z12 : ws.cell? ⟨b, 12, none⟩ = some (.int .i64 (NX : Int)) := (blk_cell hbs 12).trans rfl
  have z13 : ws.cell? ⟨b, 13, none⟩ = some (.bool false) := (blk_cell hbs 13).trans rfl
  have HAD := Lib.hid (bAdd HBP.out ⟨⟨9, a, b1, 0, 0, [], 0, 0, [], [], 0, 0, ((NX : Nat) : Int), false⟩, none, 0, none, 0⟩ (fits_none rfl rfl) (by have := HS.out.few; show T.ins.length ≤ 1000; omega))
  have HGR := Lib.hid (HS.out.leave (x := ⟨9, a, b1, 0, 0, [], 0, 0, [], [], 0, 0, ((NX : Nat) : Int), false⟩) HEX.out (.bounds _ _ _ _ HVa.out HVb1.out (by omega)) (by rw [HNX.out]) ⟨by simp, by simp⟩)
  have HILN : Hid ((T.exit ex).ins.length = T.ins.length) := Lib.hid rfl
  clear hbs HBP
  go_wp2_with fail
  ((refine (show Calls Tryd.prog _ #[.pointer (some ⟨p, 0, none⟩), .agg (RI.cells ⟨⟨9, a, b1, 0, 0, [], 0, 0, [], [], 0, 0, ((NX : Nat) : Int), false⟩, none, 0, none, 0⟩).toArray] ws _ from HAD.out).mono ?_); rintro ee wa ⟨rfl, hbd⟩)
  have HB := Lib.hid hbd
  clear hbd HAD z0 z1 z2 z3 z4 z5 z6 z7 z8 z9 z10 z11 z12 z13
  obtain ⟨T1, hT1⟩ : ∃ X, (T.exit ex).push ⟨9, a, b1, 0, 0, [], 0, 0, [], [], 0, 0, ((NX : Nat) : Int), false⟩ = X := ⟨_, rfl⟩
  replace HVa := Lib.hid (HGR.out.vb HVa.out)
  replace HVb1 := Lib.hid (HGR.out.vb HVb1.out)
  rw [hT1] at HB HGR HVa HVb1
  have HGG := Lib.hid HGR.out
  replace HS := Lib.hid (HGR.out.start HS.out (by have := HGG.out.len; have := HS.out.few; have := HGR.out.len; omega))
  clear hT1 HGR
  have HNX := Lib.hid (bNext HB.out (2) (by have := HS.out.p1; omega))
  clear HB
  go_wp2_with fail
  ((with_reducible refine HNX.out.mono ?_); rintro ee w5 ⟨r1, rfl, hr1, hbd⟩)
  have HB := Lib.hid hbd
  clear hbd HNX
  by_cases hr0 : r1 = 0
  · subst hr0
    have hbb := HB.out.at_ (.head _)
    have q1 : w5.cell? ⟨b, 1, none⟩ = some (.int .i64 a) := (blk_cell hbb 1).trans rfl
    have q2 : w5.cell? ⟨b, 2, none⟩ = some (.int .i64 b1) := (blk_cell hbb 2).trans rfl
    clear hbb
    have HAD := Lib.hid (bAdd HB.out ⟨⟨12, a, b1, 0, 0, [], 0, 0, [], [], 0, 0, -1, false⟩, none, 0, none, 0⟩ (fits_none rfl rfl) (by have := HS.out.few; omega))
    have HGR := Lib.hid (HS.out.push (x := ⟨12, a, b1, 0, 0, [], 0, 0, [], [], 0, 0, -1, false⟩) (.at_ _ _ _ HVa.out HVb1.out) (by simp) ⟨by simp, by simp⟩)
    clear HB
    go_wp2_with fail
    ((refine (show Calls Tryd.prog _ #[.pointer (some ⟨p, 0, none⟩), .agg (RI.cells ⟨⟨12, a, b1, 0, 0, [], 0, 0, [], [], 0, 0, -1, false⟩, none, 0, none, 0⟩).toArray] w5 _ from HAD.out).mono ?_); rintro ee w11 ⟨rfl, hbd⟩)
    have HB := Lib.hid hbd
    clear hbd HAD
    go_wp2_with fail
    refine bodyPost_end (results_none rfl _ _ _) rfl ?_
    obtain ⟨l, hl1, hl2⟩ := (HGG.out.trans HGR.out).pre
    exact ⟨rfl, _, ⟨(HGG.out.trans HGR.out).good, (HGG.out.trans HGR.out).body, l, hl1, by omega⟩, HB.out.less (fun x hx => (.tail _ hx))⟩
  · have hr1 : (r1 == 0) = false := by simpa using hr0
    go_upto_region 42 with (fail)
    have HBd := Lib.hid (HB.out.quiet (keep_draw _ w5))
    obtain ⟨wd, hwd⟩ : ∃ wd, w5.drew = wd := ⟨_, rfl⟩
    rw [hwd] at HBd
    clear HB
    have HVL := Lib.hid (bVal HBd.out HS.out)
    refine wp_region_drewU (S := (fun w' => Hid (w'.heap[b]? = some (.cells (#[.int .i64 9, .int .i64 a, .int .i64 b1, .int .i64 0, .int .i64 0, .slice none 0 0, .int .i64 0, .int .i64 0, .string ⟨#[]⟩, .slice none 0 0, .int .i64 0, .int .i64 0, .int .i64 0, .bool false].setIfInBounds 12 (.int .i64 (NX : Int))) 60 (0, 0))))) (D := []) (by kernel_rfl) (by rw [hwd]; exact Lib.hid (HBd.out.at_ (.head _))) (fun hH => ?_)
    rw [hwd] at hH ⊢
    clear hwd
    refine wpAnyU_take (i := 0) (v := ?_) rfl (by kernel_rfl) (by kernel_rfl) (by kernel_rfl) (by kernel_rfl) (fun _ _ _ h => h) (Or.inl ⟨by rfl, ?_⟩) hH ?_
    rotate_left
    · (intro w'' hSw; (try dsimp only at hSw); go_simp; try with_reducible rfl)
    change wpAnyU _ _ _ _ _ _ _ _ (Act.put _ (some 176) _) _
    try simp only [Act.put, List.setIfInBounds_toArray, List.set_cons_zero, List.set_cons_succ]
    refine wpAnyU_take (i := 1) (v := ?_) rfl (by kernel_rfl) (by kernel_rfl) (by kernel_rfl) (by kernel_rfl) (fun _ _ _ h => h) (Or.inl ⟨by rfl, ?_⟩) hH ?_
    rotate_left
    · (intro w'' hSw; (try dsimp only at hSw); go_simp; try with_reducible rfl)
    change wpAnyU _ _ _ _ _ _ _ _ (Act.put _ (some 177) _) _
    try simp only [Act.put, List.setIfInBounds_toArray, List.set_cons_zero, List.set_cons_succ]
    refine wpAnyU_take (i := 2) (v := ?_) rfl (by kernel_rfl) (by kernel_rfl) (by kernel_rfl) (by kernel_rfl) (fun _ _ _ h => h) (Or.inl ⟨by rfl, ?_⟩) hH ?_
    rotate_left
    · (intro w'' hSw; have q : w''.cell? ⟨b, 1, none⟩ = some (.int .i64 a) := (blk_cell hSw.out 1).trans rfl; go_simp; try with_reducible rfl)
    change wpAnyU _ _ _ _ _ _ _ _ (Act.put _ (some 178) _) _
    try simp only [Act.put, List.setIfInBounds_toArray, List.set_cons_zero, List.set_cons_succ]
    refine wpAnyU_take (i := 3) (v := ?_) rfl (by kernel_rfl) (by kernel_rfl) (by kernel_rfl) (by kernel_rfl) (fun _ _ _ h => h) (Or.inl ⟨by rfl, ?_⟩) hH ?_
    rotate_left
    · (intro w'' hSw; (try dsimp only at hSw); go_simp; try with_reducible rfl)
    change wpAnyU _ _ _ _ _ _ _ _ (Act.put _ (some 179) _) _
    try simp only [Act.put, List.setIfInBounds_toArray, List.set_cons_zero, List.set_cons_succ]
    refine wpAnyU_take (i := 4) (v := ?_) rfl (by kernel_rfl) (by kernel_rfl) (by kernel_rfl) (by kernel_rfl) (fun _ _ _ h => h) (Or.inl ⟨by rfl, ?_⟩) hH ?_
    rotate_left
    · (intro w'' hSw; have q : w''.cell? ⟨b, 2, none⟩ = some (.int .i64 b1) := (blk_cell hSw.out 2).trans rfl; go_simp; try with_reducible rfl)
    change wpAnyU _ _ _ _ _ _ _ _ (Act.put _ (some 180) _) _
    try simp only [Act.put, List.setIfInBounds_toArray, List.set_cons_zero, List.set_cons_succ]
    refine wpAnyU_take (i := 5) (v := ?_) rfl (by kernel_rfl) (by kernel_rfl) (by kernel_rfl) (by kernel_rfl) (fun _ _ _ h => h) (Or.inl ⟨by rfl, ?_⟩) hH ?_
    rotate_left
    · (intro w'' hSw; (try dsimp only at hSw); go_simp; try with_reducible rfl)
    change wpAnyU _ _ _ _ _ _ _ _ (Act.put _ (some 181) _) _
    try simp only [Act.put, List.setIfInBounds_toArray, List.set_cons_zero, List.set_cons_succ]
    refine wpAnyU_ready (rs := [6]) (by kernel_rfl) (by simp) ?_
    refine AllReadyU.cons rfl (fun Kn hKn => ?_) AllReadyU.nil
    go_simp
    go_at_call 77
    (with_reducible refine HVL.out.mono ?_)
    rintro ee wv ⟨c1, rfl, hv, hbd⟩
    have HVc1 := Lib.hid hv
    have HB := Lib.hid hbd
    clear hv hbd
    refine hKn.out _ _ ?_ (fun hH => ?_)
    · (exact Lib.hid (HB.out.at_ (.head _)))
    clear hKn Kn
    try simp only [Act.put, List.setIfInBounds_toArray, List.set_cons_zero, List.set_cons_succ]
    refine wpAnyU_take (i := 7) (v := ?_) rfl (by kernel_rfl) (by kernel_rfl) (by kernel_rfl) (by kernel_rfl) (fun _ _ _ h => h) (Or.inl ⟨by rfl, ?_⟩) hH ?_
    rotate_left
    · (intro w'' hSw; (try dsimp only at hSw); go_simp; try with_reducible rfl)
    change wpAnyU _ _ _ _ _ _ _ _ (Act.put _ (some 183) _) _
    try simp only [Act.put, List.setIfInBounds_toArray, List.set_cons_zero, List.set_cons_succ]
    refine wpAnyU_ready (rs := [8]) (by kernel_rfl) (by simp) ?_
    refine AllReadyU.cons rfl (fun Kn hKn => ?_) AllReadyU.nil
    go_simp
    go_at_call 74
    (refine (show Calls Tryd.prog _ #[.pointer (some ⟨p, 0, none⟩), .agg (RI.cells ⟨⟨13, a, b1, c1, 0, [], 0, 0, [], [], 0, 0, -1, false⟩, none, 0, none, 0⟩).toArray] wv _ from (bAdd HB.out ⟨⟨13, a, b1, c1, 0, [], 0, 0, [], [], 0, 0, -1, false⟩, none, 0, none, 0⟩ (fits_none rfl rfl) (by have := HS.out.few; omega))).mono ?_)
    rintro ee wz ⟨rfl, hbd⟩
    have HGR := Lib.hid (HS.out.push (x := ⟨13, a, b1, c1, 0, [], 0, 0, [], [], 0, 0, -1, false⟩) (.put _ _ _ HVa.out HVb1.out HVc1.out) (by simp) ⟨by simp, by simp⟩)
    replace HB := Lib.hid hbd
    clear hbd
    refine hKn.out _ _ ?_ (fun hH => ?_)
    · (exact Lib.hid (HB.out.at_ (.head _)))
    clear hKn Kn
    try simp only [Act.put, List.setIfInBounds_toArray, List.set_cons_zero, List.set_cons_succ]
    refine wpAnyU_done (by kernel_rfl) ?_ _
    go_wp2_with fail
    refine bodyPost_end (results_none rfl _ _ _) rfl ?_
    obtain ⟨l, hl1, hl2⟩ := (HGG.out.trans HGR.out).pre
    exact ⟨rfl, _, ⟨(HGG.out.trans HGR.out).good, (HGG.out.trans HGR.out).body, l, hl1, by omega⟩, HB.out.less (fun x hx => (.tail _ hx))⟩
set_option maxRecDepth 100000 in
set_option maxHeartbeats 64000000 in
theorem step_12 (h : BD n w0 p m T fu (pa : Int) C w) (hs : Start pa T) (hfu : 0 ≤ fu ∧ fu ≤ 10) (hl : T.ins.length ≤ 800) (hnx : Calls Tryd.prog 73 #[.pointer (some ⟨m, 0, none⟩), .int .i64 14] w fun e w' => e = .returned (.int .i64 12) ∧ BD n w0 p m T fu (pa : Int) C w') :
    Calls Tryd.prog 76 #[.pointer (some ⟨p, 0, none⟩)] w fun e w' => e = .returned (.tuple #[]) ∧ ∃ T' : TR, Grow pa 4 T T' ∧ BD n w0 p m T' fu (pa : Int) C w' := by
  have HS := Lib.hid hs
  have HFU := Lib.hid hfu
  have HPT := Lib.hid point_any
  obtain ⟨A, ca, E, ce, hpc⟩ := h.pcells
  have q0 := (blk_cell hpc 0).trans rfl
  have HNX := Lib.hid hnx
  clear h hs hfu hpc hnx
  go_enter Tryd.func76, Tryd.ntmps76
  go_wp2_with fail
  ((with_reducible refine HNX.out.mono ?_); rintro ee w1 ⟨rfl, hbd⟩)
  have HB := Lib.hid hbd
  clear hbd HNX q0
  have HVL := Lib.hid (bVal HB.out HS.out)
  clear HB
  go_wp2_with fail
  ((with_reducible refine HVL.out.mono ?_); rintro ee w2 ⟨a, rfl, hv, hbd⟩)
  have HVa := Lib.hid hv
  have HB := Lib.hid hbd
  clear hv hbd HVL
  go_upto_region 45 with (fail)
  have HLT := Lib.hid HB.out.lt
  have HNB := Lib.hid HB.out.low'
  replace HB := Lib.hid (HB.out.more (.cells #[.int .i64 8, .int .i64 a, .int .i64 0, .int .i64 0, .int .i64 0, .slice none 0 0, .int .i64 0, .int .i64 0, .string ⟨#[]⟩, .slice none 0 0, .int .i64 0, .int .i64 0, .int .i64 0, .bool false] 60))
  obtain ⟨w3, hw3⟩ : ∃ V : World, w2.alloc (.cells #[.int .i64 8, .int .i64 a, .int .i64 0, .int .i64 0, .int .i64 0, .slice none 0 0, .int .i64 0, .int .i64 0, .string ⟨#[]⟩, .slice none 0 0, .int .i64 0, .int .i64 0, .int .i64 0, .bool false] 60) = V := ⟨_, rfl⟩
  obtain ⟨b, hb⟩ : ∃ b, w2.heap.size = b := ⟨_, rfl⟩
  rw [hw3, hb] at HB
  rw [hb] at HNB HLT
  rw [hw3]
  try rw [hb]
  have HCB := Lib.hid (show ∀ x ∈ C, x.1 ≠ b from fun x hx => by have := HLT.out x hx; omega)
  clear hw3 hb HLT
  have HLV := Lib.hid (bLeave HB.out HS.out HFU.out)
  obtain ⟨NX, hNX⟩ : ∃ NX, T.exits.length = NX := ⟨_, rfl⟩
  rw [hNX] at HLV
  have HNX := Lib.hid hNX
  clear HB hNX
  go_wp2_with fail
  ((with_reducible refine HLV.out.mono ?_); rintro ee wl ⟨rfl, ex, hex, hbd⟩)
  have HEX := Lib.hid hex
  have HBL := Lib.hid hbd
  have hbb := hbd.at_ (.head _)
  have q12 := (blk_cell hbb 12).trans rfl
  have f12 := blk_free hbb 12
  clear hex hbd hbb HLV
  go_upto_region 46 with (fail)
  have HBP := Lib.hid (HBL.out.put ⟨by decide, by decide, by decide⟩ HCB.out HNB.out 12 (.int .i64 (NX : Int)) (w' := wl))
  obtain ⟨ws, hws⟩ : ∃ ws : World, wl.setCell ⟨b, 12, none⟩ (.int .i64 (NX : Int)) = ws := ⟨_, rfl⟩
  rw [hws] at HBP
  rw [hws]
  clear hws q12 f12 HBL
  have hbs := HBP.out.at_ (.head _)
  have z0 : ws.cell? ⟨b, 0, none⟩ = some (.int .i64 8) := (blk_cell hbs 0).trans rfl
  have z1 : ws.cell? ⟨b, 1, none⟩ = some (.int .i64 a) := (blk_cell hbs 1).trans rfl
  have z2 : ws.cell? ⟨b, 2, none⟩ = some (.int .i64 0) := (blk_cell hbs 2).trans rfl
  have z3 : ws.cell? ⟨b, 3, none⟩ = some (.int .i64 0) := (blk_cell hbs 3).trans rfl
  have z4 : ws.cell? ⟨b, 4, none⟩ = some (.int .i64 0) := (blk_cell hbs 4).trans rfl
  have z5 : ws.cell? ⟨b, 5, none⟩ = some (.slice none 0 0) := (blk_cell hbs 5).trans rfl
  have z6 : ws.cell? ⟨b, 6, none⟩ = some (.int .i64 0) := (blk_cell hbs 6).trans rfl
  have z7 : ws.cell? ⟨b, 7, none⟩ = some (.int .i64 0) := (blk_cell hbs 7).trans rfl
  have z8 : ws.cell? ⟨b, 8, none⟩ = some (.string ⟨#[]⟩) := (blk_cell hbs 8).trans rfl
  have z9 : ws.cell? ⟨b, 9, none⟩ = some (.slice none 0 0) := (blk_cell hbs 9).trans rfl
  have z10 : ws.cell? ⟨b, 10, none⟩ = some (.int .i64 0) := (blk_cell hbs 10).trans rfl
  have z11 : ws.cell? ⟨b, 11, none⟩ = some (.int .i64 0) := (blk_cell hbs 11).trans rfl
  have z12 : ws.cell? ⟨b, 12, none⟩ = some (.int .i64 (NX : Int)) := (blk_cell hbs 12).trans rfl
  have z13 : ws.cell? ⟨b, 13, none⟩ = some (.bool false) := (blk_cell hbs 13).trans rfl
  have HAD := Lib.hid (bAdd HBP.out ⟨⟨8, a, 0, 0, 0, [], 0, 0, [], [], 0, 0, ((NX : Nat) : Int), false⟩, none, 0, none, 0⟩ (fits_none rfl rfl) (by have := HS.out.few; show T.ins.length ≤ 1000; omega))
  have HGR := Lib.hid (HS.out.leave (x := ⟨8, a, 0, 0, 0, [], 0, 0, [], [], 0, 0, ((NX : Nat) : Int), false⟩) HEX.out (.arr _ _ _ HVa.out (by omega)) (by rw [HNX.out]) ⟨by simp, by simp⟩)
  have HILN : Hid ((T.exit ex).ins.length = T.ins.length) := Lib.hid rfl
  clear hbs HBP
  go_wp2_with fail
  ((refine (show Calls Tryd.prog _ #[.pointer (some ⟨p, 0, none⟩), .agg (RI.cells ⟨⟨8, a, 0, 0, 0, [], 0, 0, [], [], 0, 0, ((NX : Nat) : Int), false⟩, none, 0, none, 0⟩).toArray] ws _ from HAD.out).mono ?_); rintro ee wa ⟨rfl, hbd⟩)
  have HB := Lib.hid hbd
  clear hbd HAD z0 z1 z2 z3 z4 z5 z6 z7 z8 z9 z10 z11 z12 z13
  obtain ⟨T1, hT1⟩ : ∃ X, (T.exit ex).push ⟨8, a, 0, 0, 0, [], 0, 0, [], [], 0, 0, ((NX : Nat) : Int), false⟩ = X := ⟨_, rfl⟩
  replace HVa := Lib.hid (HGR.out.vb HVa.out)
  rw [hT1] at HB HGR HVa
  have HGG := Lib.hid HGR.out
  replace HS := Lib.hid (HGR.out.start HS.out (by have := HGG.out.len; have := HS.out.few; have := HGR.out.len; omega))
  clear hT1 HGR
  have hbb := HB.out.at_ (.head _)
  have q1 : wa.cell? ⟨b, 1, none⟩ = some (.int .i64 a) := (blk_cell hbb 1).trans rfl
  clear hbb
  have HAD := Lib.hid (bAdd HB.out ⟨⟨14, a, 0, 0, 0, [], 0, 0, [], [], 0, 0, -1, false⟩, none, 0, none, 0⟩ (fits_none rfl rfl) (by have := HS.out.few; omega))
  have HGR := Lib.hid (HS.out.push (x := ⟨14, a, 0, 0, 0, [], 0, 0, [], [], 0, 0, -1, false⟩) (.len _ _ HVa.out) (by simp) ⟨by simp, by simp⟩)
  clear HB
  go_wp2_with fail
  ((refine (show Calls Tryd.prog _ #[.pointer (some ⟨p, 0, none⟩), .agg (RI.cells ⟨⟨14, a, 0, 0, 0, [], 0, 0, [], [], 0, 0, -1, false⟩, none, 0, none, 0⟩).toArray] wa _ from HAD.out).mono ?_); rintro ee w4 ⟨rfl, hbd⟩)
  have HB := Lib.hid hbd
  clear hbd HAD
  go_wp2_with fail
  refine bodyPost_end (results_none rfl _ _ _) rfl ?_
  obtain ⟨l, hl1, hl2⟩ := (HGG.out.trans HGR.out).pre
  exact ⟨rfl, _, ⟨(HGG.out.trans HGR.out).good, (HGG.out.trans HGR.out).body, l, hl1, by omega⟩, HB.out.less (fun x hx => (.tail _ hx))⟩
set_option maxRecDepth 100000 in
set_option maxHeartbeats 64000000 in
theorem step_13 (h : BD n w0 p m T fu (pa : Int) C w) (hs : Start pa T) (hfu : 0 ≤ fu ∧ fu ≤ 10) (hl : T.ins.length ≤ 800) (hnx : Calls Tryd.prog 73 #[.pointer (some ⟨m, 0, none⟩), .int .i64 14] w fun e w' => e = .returned (.int .i64 13) ∧ BD n w0 p m T fu (pa : Int) C w') :
    Calls Tryd.prog 76 #[.pointer (some ⟨p, 0, none⟩)] w fun e w' => e = .returned (.tuple #[]) ∧ ∃ T' : TR, Grow pa 4 T T' ∧ BD n w0 p m T' fu (pa : Int) C w' := by
  have HS := Lib.hid hs
  have HFU := Lib.hid hfu
  have HPT := Lib.hid point_any
  obtain ⟨A, ca, E, ce, hpc⟩ := h.pcells
  have q0 := (blk_cell hpc 0).trans rfl
  have HNX := Lib.hid hnx
  clear h hs hfu hpc hnx
  go_enter Tryd.func76, Tryd.ntmps76
  go_wp2_with fail
  ((with_reducible refine HNX.out.mono ?_); rintro ee w1 ⟨rfl, hbd⟩)
  have HB := Lib.hid hbd
  clear hbd HNX q0
  have HVL := Lib.hid (bVal HB.out HS.out)
  clear HB
  go_wp2_with fail
  ((with_reducible refine HVL.out.mono ?_); rintro ee w2 ⟨a, rfl, hv, hbd⟩)
  have HVa := Lib.hid hv
  have HB := Lib.hid hbd
  clear hv hbd HVL
  have HNX := Lib.hid (bNext HB.out (4) (by have := HS.out.p1; omega))
  clear HB
  go_wp2_with fail
  ((with_reducible refine HNX.out.mono ?_); rintro ee w3 ⟨r1, rfl, hr1, hbd⟩)
  have HB := Lib.hid hbd
  clear hbd HNX
  go_upto_region 50 with (fail)
  have HLT := Lib.hid HB.out.lt
  have HNB := Lib.hid HB.out.low'
  replace HB := Lib.hid (HB.out.more (.cells #[.int .i64 6, .int .i64 a, .int .i64 0, .int .i64 0, .int .i64 (1 + r1), .slice none 0 0, .int .i64 0, .int .i64 0, .string ⟨#[]⟩, .slice none 0 0, .int .i64 0, .int .i64 0, .int .i64 0, .bool false] 60))
  obtain ⟨w4, hw4⟩ : ∃ V : World, w3.alloc (.cells #[.int .i64 6, .int .i64 a, .int .i64 0, .int .i64 0, .int .i64 (1 + r1), .slice none 0 0, .int .i64 0, .int .i64 0, .string ⟨#[]⟩, .slice none 0 0, .int .i64 0, .int .i64 0, .int .i64 0, .bool false] 60) = V := ⟨_, rfl⟩
  obtain ⟨b, hb⟩ : ∃ b, w3.heap.size = b := ⟨_, rfl⟩
  rw [hw4, hb] at HB
  rw [hb] at HNB HLT
  rw [hw4]
  try rw [hb]
  have HCB := Lib.hid (show ∀ x ∈ C, x.1 ≠ b from fun x hx => by have := HLT.out x hx; omega)
  clear hw4 hb HLT
  have HLV := Lib.hid (bLeave HB.out HS.out HFU.out)
  obtain ⟨NX, hNX⟩ : ∃ NX, T.exits.length = NX := ⟨_, rfl⟩
  rw [hNX] at HLV
  have HNX := Lib.hid hNX
  clear HB hNX
  go_wp2_with fail
  ((with_reducible refine HLV.out.mono ?_); rintro ee wl ⟨rfl, ex, hex, hbd⟩)
  have HEX := Lib.hid hex
  have HBL := Lib.hid hbd
  have hbb := hbd.at_ (.head _)
  have q12 := (blk_cell hbb 12).trans rfl
  have f12 := blk_free hbb 12
  clear hex hbd hbb HLV
  go_upto_region 51 with (fail)
  have HBP := Lib.hid (HBL.out.put ⟨by decide, by decide, by decide⟩ HCB.out HNB.out 12 (.int .i64 (NX : Int)) (w' := wl))
  obtain ⟨ws, hws⟩ : ∃ ws : World, wl.setCell ⟨b, 12, none⟩ (.int .i64 (NX : Int)) = ws := ⟨_, rfl⟩
  rw [hws] at HBP
  rw [hws]
  clear hws q12 f12 HBL
  have hbs := HBP.out.at_ (.head _)
  have z0 : ws.cell? ⟨b, 0, none⟩ = some (.int .i64 6) := (blk_cell hbs 0).trans rfl
  have z1 : ws.cell? ⟨b, 1, none⟩ = some (.int .i64 a) := (blk_cell hbs 1).trans rfl
  have z2 : ws.cell? ⟨b, 2, none⟩ = some (.int .i64 0) := (blk_cell hbs 2).trans rfl
  have z3 : ws.cell? ⟨b, 3, none⟩ = some (.int .i64 0) := (blk_cell hbs 3).trans rfl
  have z4 : ws.cell? ⟨b, 4, none⟩ = some (.int .i64 (1 + r1)) := (blk_cell hbs 4).trans rfl
  have z5 : ws.cell? ⟨b, 5, none⟩ = some (.slice none 0 0) := (blk_cell hbs 5).trans rfl
  have z6 : ws.cell? ⟨b, 6, none⟩ = some (.int .i64 0) := (blk_cell hbs 6).trans rfl
  have z7 : ws.cell? ⟨b, 7, none⟩ = some (.int .i64 0) := (blk_cell hbs 7).trans rfl
  have z8 : ws.cell? ⟨b, 8, none⟩ = some (.string ⟨#[]⟩) := (blk_cell hbs 8).trans rfl
  have z9 : ws.cell? ⟨b, 9, none⟩ = some (.slice none 0 0) := (blk_cell hbs 9).trans rfl
  have z10 : ws.cell? ⟨b, 10, none⟩ = some (.int .i64 0) := (blk_cell hbs 10).trans rfl
  have z11 : ws.cell? ⟨b, 11, none⟩ = some (.int .i64 0) := (blk_cell hbs 11).trans rfl
  have z12 : ws.cell? ⟨b, 12, none⟩ = some (.int .i64 (NX : Int)) := (blk_cell hbs 12).trans rfl
  have z13 : ws.cell? ⟨b, 13, none⟩ = some (.bool false) := (blk_cell hbs 13).trans rfl
  have HAD := Lib.hid (bAdd HBP.out ⟨⟨6, a, 0, 0, 1 + r1, [], 0, 0, [], [], 0, 0, ((NX : Nat) : Int), false⟩, none, 0, none, 0⟩ (fits_none rfl rfl) (by have := HS.out.few; show T.ins.length ≤ 1000; omega))
  have HGR := Lib.hid (HS.out.leave (x := ⟨6, a, 0, 0, 1 + r1, [], 0, 0, [], [], 0, 0, ((NX : Nat) : Int), false⟩) HEX.out (.kind _ _ _ _ HVa.out (by omega) (by omega)) (by rw [HNX.out]) ⟨by simp, by simp⟩)
  have HILN : Hid ((T.exit ex).ins.length = T.ins.length) := Lib.hid rfl
  clear hbs HBP
  go_wp2_with fail
  ((refine (show Calls Tryd.prog _ #[.pointer (some ⟨p, 0, none⟩), .agg (RI.cells ⟨⟨6, a, 0, 0, 1 + r1, [], 0, 0, [], [], 0, 0, ((NX : Nat) : Int), false⟩, none, 0, none, 0⟩).toArray] ws _ from HAD.out).mono ?_); rintro ee wa ⟨rfl, hbd⟩)
  have HB := Lib.hid hbd
  clear hbd HAD z0 z1 z2 z3 z4 z5 z6 z7 z8 z9 z10 z11 z12 z13
  obtain ⟨T1, hT1⟩ : ∃ X, (T.exit ex).push ⟨6, a, 0, 0, 1 + r1, [], 0, 0, [], [], 0, 0, ((NX : Nat) : Int), false⟩ = X := ⟨_, rfl⟩
  replace HVa := Lib.hid (HGR.out.vb HVa.out)
  rw [hT1] at HB HGR HVa
  have HGG := Lib.hid HGR.out
  replace HS := Lib.hid (HGR.out.start HS.out (by have := HGG.out.len; have := HS.out.few; have := HGR.out.len; omega))
  clear hT1 HGR
  go_upto_region 52 with (fail)
  have HBd := Lib.hid (HB.out.quiet (keep_draw _ wa))
  obtain ⟨wd, hwd⟩ : ∃ wd, wa.drew = wd := ⟨_, rfl⟩
  rw [hwd] at HBd
  clear HB
  have HNX2 := Lib.hid (bNext HBd.out 3 (by omega))
  refine wp_region_drewU (S := (fun w' => Hid (w'.heap[b]? = some (.cells (#[.int .i64 6, .int .i64 a, .int .i64 0, .int .i64 0, .int .i64 (1 + r1), .slice none 0 0, .int .i64 0, .int .i64 0, .string ⟨#[]⟩, .slice none 0 0, .int .i64 0, .int .i64 0, .int .i64 0, .bool false].setIfInBounds 12 (.int .i64 (NX : Int))) 60 (0, 0))))) (D := []) (by kernel_rfl) (by rw [hwd]; exact Lib.hid (HBd.out.at_ (.head _))) (fun hH => ?_)
  rw [hwd] at hH ⊢
  clear hwd
  refine wpAnyU_take (i := 0) (v := ?_) rfl (by kernel_rfl) (by kernel_rfl) (by kernel_rfl) (by kernel_rfl) (fun _ _ _ h => h) (Or.inl ⟨by rfl, ?_⟩) hH ?_
  rotate_left
  · (intro w'' hSw; (try dsimp only at hSw); go_simp; try with_reducible rfl)
  change wpAnyU _ _ _ _ _ _ _ _ (Act.put _ (some 215) _) _
  try simp only [Act.put, List.setIfInBounds_toArray, List.set_cons_zero, List.set_cons_succ]
  refine wpAnyU_take (i := 1) (v := ?_) rfl (by kernel_rfl) (by kernel_rfl) (by kernel_rfl) (by kernel_rfl) (fun _ _ _ h => h) (Or.inl ⟨by rfl, ?_⟩) hH ?_
  rotate_left
  · (intro w'' hSw; (try dsimp only at hSw); go_simp; try with_reducible rfl)
  change wpAnyU _ _ _ _ _ _ _ _ (Act.put _ (some 216) _) _
  try simp only [Act.put, List.setIfInBounds_toArray, List.set_cons_zero, List.set_cons_succ]
  refine wpAnyU_take (i := 2) (v := ?_) rfl (by kernel_rfl) (by kernel_rfl) (by kernel_rfl) (by kernel_rfl) (fun _ _ _ h => h) (Or.inl ⟨by rfl, ?_⟩) hH ?_
  rotate_left
  · (intro w'' hSw; have q : w''.cell? ⟨b, 1, none⟩ = some (.int .i64 a) := (blk_cell hSw.out 1).trans rfl; go_simp; try with_reducible rfl)
  change wpAnyU _ _ _ _ _ _ _ _ (Act.put _ (some 217) _) _
  try simp only [Act.put, List.setIfInBounds_toArray, List.set_cons_zero, List.set_cons_succ]
  refine wpAnyU_take (i := 3) (v := ?_) rfl (by kernel_rfl) (by kernel_rfl) (by kernel_rfl) (by kernel_rfl) (fun _ _ _ h => h) (Or.inl ⟨by rfl, ?_⟩) hH ?_
  rotate_left
  · (intro w'' hSw; (try dsimp only at hSw); go_simp; try with_reducible rfl)
  change wpAnyU _ _ _ _ _ _ _ _ (Act.put _ (some 218) _) _
  try simp only [Act.put, List.setIfInBounds_toArray, List.set_cons_zero, List.set_cons_succ]
  refine wpAnyU_ready (rs := [4]) (by kernel_rfl) (by simp) ?_
  refine AllReadyU.cons rfl (fun Kn hKn => ?_) AllReadyU.nil
  go_simp
  go_at_call 73
  (with_reducible refine HNX2.out.mono ?_)
  rintro ee wv ⟨r2, rfl, hr2, hbd⟩
  have HB := Lib.hid hbd
  clear hbd
  refine hKn.out _ _ ?_ (fun hH => ?_)
  · (exact Lib.hid (HB.out.at_ (.head _)))
  clear hKn Kn
  try simp only [Act.put, List.setIfInBounds_toArray, List.set_cons_zero, List.set_cons_succ]
  refine wpAnyU_take (i := 5) (v := ?_) rfl (by kernel_rfl) (by kernel_rfl) (by kernel_rfl) (by kernel_rfl) (fun _ _ _ h => h) (Or.inl ⟨by rfl, ?_⟩) hH ?_
  rotate_left
  · (intro w'' hSw; (try dsimp only at hSw); go_simp; try with_reducible rfl)
  change wpAnyU _ _ _ _ _ _ _ _ (Act.put _ (some 220) _) _
  try simp only [Act.put, List.setIfInBounds_toArray, List.set_cons_zero, List.set_cons_succ]
  refine wpAnyU_take (i := 6) (v := ?_) rfl (by kernel_rfl) (by kernel_rfl) (by kernel_rfl) (by kernel_rfl) (fun _ _ _ h => h) (Or.inl ⟨by rfl, ?_⟩) hH ?_
  rotate_left
  · (intro w'' hSw; (try dsimp only at hSw); go_simp; try with_reducible rfl)
  change wpAnyU _ _ _ _ _ _ _ _ (Act.put _ (some 221) _) _
  try simp only [Act.put, List.setIfInBounds_toArray, List.set_cons_zero, List.set_cons_succ]
  refine wpAnyU_ready (rs := [7]) (by kernel_rfl) (by simp) ?_
  refine AllReadyU.cons rfl (fun Kn hKn => ?_) AllReadyU.nil
  go_simp
  go_at_call 74
  (refine (show Calls Tryd.prog _ #[.pointer (some ⟨p, 0, none⟩), .agg (RI.cells ⟨⟨19, a, 0, 0, 0, [], 0, 0, [], [], 0, r2, -1, false⟩, none, 0, none, 0⟩).toArray] wv _ from (bAdd HB.out ⟨⟨19, a, 0, 0, 0, [], 0, 0, [], [], 0, r2, -1, false⟩, none, 0, none, 0⟩ (fits_none rfl rfl) (by have := HS.out.few; omega))).mono ?_)
  rintro ee wz ⟨rfl, hbd⟩
  have HGR := Lib.hid (HS.out.push (x := ⟨19, a, 0, 0, 0, [], 0, 0, [], [], 0, r2, -1, false⟩) (.print _ _ HVa.out (by omega)) (by simp) ⟨by simp, by simp⟩)
  replace HB := Lib.hid hbd
  clear hbd
  refine hKn.out _ _ ?_ (fun hH => ?_)
  · (exact Lib.hid (HB.out.at_ (.head _)))
  clear hKn Kn
  try simp only [Act.put, List.setIfInBounds_toArray, List.set_cons_zero, List.set_cons_succ]
  refine wpAnyU_done (by kernel_rfl) ?_ _
  go_wp2_with fail
  refine bodyPost_end (results_none rfl _ _ _) rfl ?_
  obtain ⟨l, hl1, hl2⟩ := (HGG.out.trans HGR.out).pre
  exact ⟨rfl, _, ⟨(HGG.out.trans HGR.out).good, (HGG.out.trans HGR.out).body, l, hl1, by omega⟩, HB.out.less (fun x hx => (.tail _ hx))⟩
end
end Go.Proofs.YtnbpgipbfejllaaDoor
