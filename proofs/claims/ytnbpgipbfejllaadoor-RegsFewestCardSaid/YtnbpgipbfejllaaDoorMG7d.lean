/- graph: the builder's step, cases [9, 10] -/
import Derived.Test.YtnbpgipbfejllaaDoorMG7x
namespace Go.Proofs.YtnbpgipbfejllaaDoor
open Go.RowKit Go.Lib
set_option linter.unusedVariables false
set_option linter.unusedSimpArgs false

section
variable {n : Nat} {w0 w : World} {p m : Nat} {T : TR} {fu : Int} {pa : Nat} {C : List (Nat × Obj)}
set_option maxRecDepth 100000 in
set_option maxHeartbeats 64000000 in
theorem step_9 (h : BD n w0 p m T fu (pa : Int) C w) (hs : Start pa T) (hfu : 0 ≤ fu ∧ fu ≤ 10) (hl : T.ins.length ≤ 800) (hnx : Calls Tryd.prog 73 #[.pointer (some ⟨m, 0, none⟩), .int .i64 14] w fun e w' => e = .returned (.int .i64 9) ∧ BD n w0 p m T fu (pa : Int) C w') :
    Calls Tryd.prog 76 #[.pointer (some ⟨p, 0, none⟩)] w fun e w' => e = .returned (.tuple #[]) ∧ ∃ T' : TR, Grow pa 4 T T' ∧ BD n w0 p m T' fu (pa : Int) C w' := by
  have HS := Lib.hid hs
  have HFU := Lib.hid hfu
  have HPT := Lib.hid point_any
  obtain ⟨A, ca, E, ce, hpc⟩ := h.pcells
  have q0 := (blk_cell hpc 0).trans rfl
  have HNX := Lib.hid hnx
  clear h hs hfu hpc hnx
  go_enter Tryd.func76, Tryd.ntmps76
  go_wp2_with fail
  ((with_reducible refine HNX.out.mono ?_); rintro ee w1 ⟨rfl, hbd⟩)
  have HB := Lib.hid hbd
  clear hbd HNX q0
  go_upto_region 31 with (fail)
  have HLT := Lib.hid HB.out.lt
  have HNB := Lib.hid HB.out.low'
  replace HB := Lib.hid (HB.out.more (.cells #[.int .i64 15, .int .i64 0, .int .i64 0, .int .i64 0, .int .i64 32, .slice none 0 0, .int .i64 0, .int .i64 0, .string ⟨#[]⟩, .slice none 0 0, .int .i64 0, .int .i64 0, .int .i64 0, .bool false] 60))
  obtain ⟨w2, hw2⟩ : ∃ V : World, w1.alloc (.cells #[.int .i64 15, .int .i64 0, .int .i64 0, .int .i64 0, .int .i64 32, .slice none 0 0, .int .i64 0, .int .i64 0, .string ⟨#[]⟩, .slice none 0 0, .int .i64 0, .int .i64 0, .int .i64 0, .bool false] 60) = V := ⟨_, rfl⟩
  obtain ⟨b, hb⟩ : ∃ b, w1.heap.size = b := ⟨_, rfl⟩
  rw [hw2, hb] at HB
  rw [hb] at HNB HLT
  rw [hw2]
  try rw [hb]
  have HCB := Lib.hid (show ∀ x ∈ C, x.1 ≠ b from fun x hx => by have := HLT.out x hx; omega)
  clear hw2 hb HLT
  have HLV := Lib.hid (bLeave HB.out HS.out HFU.out)
  obtain ⟨NX, hNX⟩ : ∃ NX, T.exits.length = NX := ⟨_, rfl⟩
  rw [hNX] at HLV
  have HNX := Lib.hid hNX
  clear HB hNX
  go_wp2_with fail
  ((with_reducible refine HLV.out.mono ?_); rintro ee wl ⟨rfl, ex, hex, hbd⟩)
  have HEX := Lib.hid hex
  have HBL := Lib.hid hbd
  have hbb := hbd.at_ (.head _)
  have q12 := (blk_cell hbb 12).trans rfl
  have f12 := blk_free hbb 12
  clear hex hbd hbb HLV
  go_upto_region 32 with (fail)
  have HBP := Lib.hid (HBL.out.put ⟨by decide, by decide, by decide⟩ HCB.out HNB.out 12 (.int .i64 (NX : Int)) (w' := wl))
  obtain ⟨ws, hws⟩ : ∃ ws : World, wl.setCell ⟨b, 12, none⟩ (.int .i64 (NX : Int)) = ws := ⟨_, rfl⟩
  rw [hws] at HBP
  rw [hws]
  clear hws q12 f12 HBL
  have hbs := HBP.out.at_ (.head _)
  have z0 : ws.cell? ⟨b, 0, none⟩ = some (.int .i64 15) := (blk_cell hbs 0).trans rfl
  have z1 : ws.cell? ⟨b, 1, none⟩ = some (.int .i64 0) := (blk_cell hbs 1).trans rfl
  have z2 : ws.cell? ⟨b, 2, none⟩ = some (.int .i64 0) := (blk_cell hbs 2).trans rfl
  have z3 : ws.cell? ⟨b, 3, none⟩ = some (.int .i64 0) := (blk_cell hbs 3).trans rfl
  have z4 : ws.cell? ⟨b, 4, none⟩ = some (.int .i64 32) := (blk_cell hbs 4).trans rfl
  have z5 : ws.cell? ⟨b, 5, none⟩ = some (.slice none 0 0) := (blk_cell hbs 5).trans rfl
  have z6 : ws.cell? ⟨b, 6, none⟩ = some (.int .i64 0) := (blk_cell hbs 6).trans rfl
  have z7 : ws.cell? ⟨b, 7, none⟩ = some (.int .i64 0) := (blk_cell hbs 7).trans rfl
  have z8 : ws.cell? ⟨b, 8, none⟩ = some (.string ⟨#[]⟩) := (blk_cell hbs 8).trans rfl
  have z9 : ws.cell? ⟨b, 9, none⟩ = some (.slice none 0 0) := (blk_cell hbs 9).trans rfl
  have z10 : ws.cell? ⟨b, 10, none⟩ = some (.int .i64 0) := (blk_cell hbs 10).trans rfl
  have z11 : ws.cell? ⟨b, 11, none⟩ = some (.int .i64 0) := (blk_cell hbs 11).trans rfl
  have z12 : ws.cell? ⟨b, 12, none⟩ = some (.int .i64 (NX : Int)) := (blk_cell hbs 12).trans rfl
  have z13 : ws.cell? ⟨b, 13, none⟩ = some (.bool false) := (blk_cell hbs 13).trans rfl
  have HAD := Lib.hid (bAdd HBP.out ⟨⟨15, 0, 0, 0, 32, [], 0, 0, [], [], 0, 0, ((NX : Nat) : Int), false⟩, none, 0, none, 0⟩ (fits_none rfl rfl) (by have := HS.out.few; show T.ins.length ≤ 1000; omega))
  have HGR := Lib.hid (HS.out.leave (x := ⟨15, 0, 0, 0, 32, [], 0, 0, [], [], 0, 0, ((NX : Nat) : Int), false⟩) HEX.out (.bytes _ (by omega)) (by rw [HNX.out]) ⟨by simp, by simp⟩)
  have HILN : Hid ((T.exit ex).ins.length = T.ins.length) := Lib.hid rfl
  clear hbs HBP
  go_wp2_with fail
  ((refine (show Calls Tryd.prog _ #[.pointer (some ⟨p, 0, none⟩), .agg (RI.cells ⟨⟨15, 0, 0, 0, 32, [], 0, 0, [], [], 0, 0, ((NX : Nat) : Int), false⟩, none, 0, none, 0⟩).toArray] ws _ from HAD.out).mono ?_); rintro ee wa ⟨rfl, hbd⟩)
  have HB := Lib.hid hbd
  clear hbd HAD z0 z1 z2 z3 z4 z5 z6 z7 z8 z9 z10 z11 z12 z13
  obtain ⟨T1, hT1⟩ : ∃ X, (T.exit ex).push ⟨15, 0, 0, 0, 32, [], 0, 0, [], [], 0, 0, ((NX : Nat) : Int), false⟩ = X := ⟨_, rfl⟩
  rw [hT1] at HB HGR
  have HGG := Lib.hid HGR.out
  replace HS := Lib.hid (HGR.out.start HS.out (by have := HGG.out.len; have := HS.out.few; have := HGR.out.len; omega))
  clear hT1 HGR
  have HLT2 := Lib.hid HB.out.lt
  replace HB := Lib.hid (HB.out.more (.cells #[.string (sb [120]), .string (sb [121])] 9))
  go_wp2_with fail
  ((with_reducible refine (HPT.out wa).mono ?_); rintro ee w' ⟨rfl, rfl⟩)
  obtain ⟨gn, hgn⟩ : ∃ gn, wa.heap.size = gn := ⟨_, rfl⟩
  obtain ⟨w3, hw3⟩ : ∃ V : World, wa.alloc (.cells #[.string (sb [120]), .string (sb [121])] 9) = V := ⟨_, rfl⟩
  rw [hw3, hgn] at HB
  rw [hw3, hgn]
  clear hgn hw3 HLT2
  have HNM := Lib.hid (HB.out.at_ (.head _))
  have HAD := Lib.hid (bAdd HB.out ⟨⟨16, 0, 0, 0, 0, [], 0, 0, [], xy, 0, 0, -1, false⟩, none, 0, some ⟨gn, 0, none⟩, 2⟩ (fits_xy rfl rfl HNM.out) (by have := HS.out.few; omega))
  have HGR := Lib.hid (HS.out.push (x := ⟨16, 0, 0, 0, 0, [], 0, 0, [], xy, 0, 0, -1, false⟩) (.new) (by simp) ⟨by simp, by simp⟩)
  clear HB
  go_wp2_with fail
  ((refine (show Calls Tryd.prog _ #[.pointer (some ⟨p, 0, none⟩), .agg (RI.cells ⟨⟨16, 0, 0, 0, 0, [], 0, 0, [], xy, 0, 0, -1, false⟩, none, 0, some ⟨gn, 0, none⟩, 2⟩).toArray] w3 _ from HAD.out).mono ?_); rintro ee w4 ⟨rfl, hbd⟩)
  have HB := Lib.hid hbd
  clear hbd HAD
  obtain ⟨T2, hT2⟩ : ∃ X, T1.push ⟨16, 0, 0, 0, 0, [], 0, 0, [], xy, 0, 0, -1, false⟩ = X := ⟨_, rfl⟩
  have HVo := Lib.hid (VB.last HGR.out (rfl) (x := ⟨16, 0, 0, 0, 0, [], 0, 0, [], xy, 0, 0, -1, false⟩) rfl)
  rw [hT2] at HB HGR HVo
  replace HGG := Lib.hid (HGG.out.trans HGR.out)
  replace HS := Lib.hid (HGR.out.start HS.out (by have := HGG.out.len; have := HS.out.few; have := HGR.out.len; omega))
  clear hT2 HGR
  obtain ⟨o, ho⟩ : ∃ o : Int, ((T1.ins.length : Nat) : Int) = o := ⟨_, rfl⟩
  rw [ho] at HVo
  try rw [ho]
  clear ho HNM
  obtain ⟨A, ca, E, ce, hpc⟩ := HB.out.pcells
  have q6 := (blk_cell hpc 6).trans rfl
  clear hpc
  have HNX := Lib.hid (bNext HB.out ((pa : Int)) (by have := HS.out.p1; omega))
  clear HB
  go_wp2_with fail
  ((with_reducible refine HNX.out.mono ?_); rintro ee w5 ⟨r1, rfl, hr1, hbd⟩)
  have HB := Lib.hid hbd
  clear hbd HNX
  obtain ⟨r3, rfl⟩ : ∃ k : Nat, r1 = (k : Int) := ⟨r1.toNat, by omega⟩
  have HVr := Lib.hid (HS.out.param (r := r3) (by omega))
  clear q6
  have HNX := Lib.hid (bNext HB.out (2) (by have := HS.out.p1; omega))
  clear HB
  go_wp2_with fail
  ((with_reducible refine HNX.out.mono ?_); rintro ee w6 ⟨r2, rfl, hr2, hbd⟩)
  have HB := Lib.hid hbd
  clear hbd HNX
  have HAD := Lib.hid (bAdd HB.out ⟨⟨11, o, (r3 : Int), 0, r2, [], 0, 0, [], [], 0, 0, -1, false⟩, none, 0, none, 0⟩ (fits_none rfl rfl) (by have := HS.out.few; omega))
  have HGR := Lib.hid (HS.out.push (x := ⟨11, o, (r3 : Int), 0, r2, [], 0, 0, [], [], 0, 0, -1, false⟩) (.store _ _ _ HVo.out HVr.out (by omega)) (by simp) ⟨by simp, by simp⟩)
  clear HB
  go_wp2_with fail
  ((refine (show Calls Tryd.prog _ #[.pointer (some ⟨p, 0, none⟩), .agg (RI.cells ⟨⟨11, o, (r3 : Int), 0, r2, [], 0, 0, [], [], 0, 0, -1, false⟩, none, 0, none, 0⟩).toArray] w6 _ from HAD.out).mono ?_); rintro ee w7 ⟨rfl, hbd⟩)
  have HB := Lib.hid hbd
  clear hbd HAD
  obtain ⟨T3, hT3⟩ : ∃ X, T2.push ⟨11, o, (r3 : Int), 0, r2, [], 0, 0, [], [], 0, 0, -1, false⟩ = X := ⟨_, rfl⟩
  replace HVo := Lib.hid (HGR.out.vb HVo.out)
  rw [hT3] at HB HGR HVo
  replace HGG := Lib.hid (HGG.out.trans HGR.out)
  replace HS := Lib.hid (HGR.out.start HS.out (by have := HGG.out.len; have := HS.out.few; have := HGR.out.len; omega))
  clear hT3 HGR
  have HNX := Lib.hid (bNext HB.out (2) (by have := HS.out.p1; omega))
  clear HB
  go_wp2_with fail
  ((with_reducible refine HNX.out.mono ?_); rintro ee w8 ⟨r4, rfl, hr4, hbd⟩)
  have HB := Lib.hid hbd
  clear hbd HNX
  have HAD := Lib.hid (bAdd HB.out ⟨⟨10, o, 0, 0, r4, [], 0, 0, [], [], 0, 0, -1, false⟩, none, 0, none, 0⟩ (fits_none rfl rfl) (by have := HS.out.few; omega))
  have HGR := Lib.hid (HS.out.push (x := ⟨10, o, 0, 0, r4, [], 0, 0, [], [], 0, 0, -1, false⟩) (.load _ _ _ HVo.out (by omega)) (by simp) ⟨by simp, by simp⟩)
  clear HB
  go_wp2_with fail
  ((refine (show Calls Tryd.prog _ #[.pointer (some ⟨p, 0, none⟩), .agg (RI.cells ⟨⟨10, o, 0, 0, r4, [], 0, 0, [], [], 0, 0, -1, false⟩, none, 0, none, 0⟩).toArray] w8 _ from HAD.out).mono ?_); rintro ee w9 ⟨rfl, hbd⟩)
  have HB := Lib.hid hbd
  clear hbd HAD
  go_wp2_with fail
  refine bodyPost_end (results_none rfl _ _ _) rfl ?_
  obtain ⟨l, hl1, hl2⟩ := (HGG.out.trans HGR.out).pre
  exact ⟨rfl, _, ⟨(HGG.out.trans HGR.out).good, (HGG.out.trans HGR.out).body, l, hl1, by omega⟩, HB.out.less (fun x hx => (.tail _ (.tail _ hx)))⟩
set_option maxRecDepth 100000 in
set_option maxHeartbeats 64000000 in
theorem step_10 (h : BD n w0 p m T fu (pa : Int) C w) (hs : Start pa T) (hfu : 0 ≤ fu ∧ fu ≤ 10) (hl : T.ins.length ≤ 800) (hnx : Calls Tryd.prog 73 #[.pointer (some ⟨m, 0, none⟩), .int .i64 14] w fun e w' => e = .returned (.int .i64 10) ∧ BD n w0 p m T fu (pa : Int) C w') :
    Calls Tryd.prog 76 #[.pointer (some ⟨p, 0, none⟩)] w fun e w' => e = .returned (.tuple #[]) ∧ ∃ T' : TR, Grow pa 4 T T' ∧ BD n w0 p m T' fu (pa : Int) C w' := by
  have HS := Lib.hid hs
  have HFU := Lib.hid hfu
  have HPT := Lib.hid point_any
  obtain ⟨A, ca, E, ce, hpc⟩ := h.pcells
  have q0 := (blk_cell hpc 0).trans rfl
  have HNX := Lib.hid hnx
  clear h hs hfu hpc hnx
  go_enter Tryd.func76, Tryd.ntmps76
  go_wp2_with fail
  ((with_reducible refine HNX.out.mono ?_); rintro ee w1 ⟨rfl, hbd⟩)
  have HB := Lib.hid hbd
  clear hbd HNX q0
  go_upto_region 31 with (fail)
  have HLT := Lib.hid HB.out.lt
  have HNB := Lib.hid HB.out.low'
  replace HB := Lib.hid (HB.out.more (.cells #[.int .i64 15, .int .i64 0, .int .i64 0, .int .i64 0, .int .i64 32, .slice none 0 0, .int .i64 0, .int .i64 0, .string ⟨#[]⟩, .slice none 0 0, .int .i64 0, .int .i64 0, .int .i64 0, .bool false] 60))
  obtain ⟨w2, hw2⟩ : ∃ V : World, w1.alloc (.cells #[.int .i64 15, .int .i64 0, .int .i64 0, .int .i64 0, .int .i64 32, .slice none 0 0, .int .i64 0, .int .i64 0, .string ⟨#[]⟩, .slice none 0 0, .int .i64 0, .int .i64 0, .int .i64 0, .bool false] 60) = V := ⟨_, rfl⟩
  obtain ⟨b, hb⟩ : ∃ b, w1.heap.size = b := ⟨_, rfl⟩
  rw [hw2, hb] at HB
  rw [hb] at HNB HLT
  rw [hw2]
  try rw [hb]
  have HCB := Lib.hid (show ∀ x ∈ C, x.1 ≠ b from fun x hx => by have := HLT.out x hx; omega)
  clear hw2 hb HLT
  have HLV := Lib.hid (bLeave HB.out HS.out HFU.out)
  obtain ⟨NX, hNX⟩ : ∃ NX, T.exits.length = NX := ⟨_, rfl⟩
  rw [hNX] at HLV
  have HNX := Lib.hid hNX
  clear HB hNX
  go_wp2_with fail
  ((with_reducible refine HLV.out.mono ?_); rintro ee wl ⟨rfl, ex, hex, hbd⟩)
  have HEX := Lib.hid hex
  have HBL := Lib.hid hbd
  have hbb := hbd.at_ (.head _)
  have q12 := (blk_cell hbb 12).trans rfl
  have f12 := blk_free hbb 12
  clear hex hbd hbb HLV
  go_upto_region 32 with (fail)
  have HBP := Lib.hid (HBL.out.put ⟨by decide, by decide, by decide⟩ HCB.out HNB.out 12 (.int .i64 (NX : Int)) (w' := wl))
  obtain ⟨ws, hws⟩ : ∃ ws : World, wl.setCell ⟨b, 12, none⟩ (.int .i64 (NX : Int)) = ws := ⟨_, rfl⟩
  rw [hws] at HBP
  rw [hws]
  clear hws q12 f12 HBL
  have hbs := HBP.out.at_ (.head _)
  have z0 : ws.cell? ⟨b, 0, none⟩ = some (.int .i64 15) := (blk_cell hbs 0).trans rfl
  have z1 : ws.cell? ⟨b, 1, none⟩ = some (.int .i64 0) := (blk_cell hbs 1).trans rfl
  have z2 : ws.cell? ⟨b, 2, none⟩ = some (.int .i64 0) := (blk_cell hbs 2).trans rfl
  have z3 : ws.cell? ⟨b, 3, none⟩ = some (.int .i64 0) := (blk_cell hbs 3).trans rfl
  have z4 : ws.cell? ⟨b, 4, none⟩ = some (.int .i64 32) := (blk_cell hbs 4).trans rfl
  have z5 : ws.cell? ⟨b, 5, none⟩ = some (.slice none 0 0) := (blk_cell hbs 5).trans rfl
  have z6 : ws.cell? ⟨b, 6, none⟩ = some (.int .i64 0) := (blk_cell hbs 6).trans rfl
  have z7 : ws.cell? ⟨b, 7, none⟩ = some (.int .i64 0) := (blk_cell hbs 7).trans rfl
  have z8 : ws.cell? ⟨b, 8, none⟩ = some (.string ⟨#[]⟩) := (blk_cell hbs 8).trans rfl
  have z9 : ws.cell? ⟨b, 9, none⟩ = some (.slice none 0 0) := (blk_cell hbs 9).trans rfl
  have z10 : ws.cell? ⟨b, 10, none⟩ = some (.int .i64 0) := (blk_cell hbs 10).trans rfl
  have z11 : ws.cell? ⟨b, 11, none⟩ = some (.int .i64 0) := (blk_cell hbs 11).trans rfl
  have z12 : ws.cell? ⟨b, 12, none⟩ = some (.int .i64 (NX : Int)) := (blk_cell hbs 12).trans rfl
  have z13 : ws.cell? ⟨b, 13, none⟩ = some (.bool false) := (blk_cell hbs 13).trans rfl
  have HAD := Lib.hid (bAdd HBP.out ⟨⟨15, 0, 0, 0, 32, [], 0, 0, [], [], 0, 0, ((NX : Nat) : Int), false⟩, none, 0, none, 0⟩ (fits_none rfl rfl) (by have := HS.out.few; show T.ins.length ≤ 1000; omega))
  have HGR := Lib.hid (HS.out.leave (x := ⟨15, 0, 0, 0, 32, [], 0, 0, [], [], 0, 0, ((NX : Nat) : Int), false⟩) HEX.out (.bytes _ (by omega)) (by rw [HNX.out]) ⟨by simp, by simp⟩)
  have HILN : Hid ((T.exit ex).ins.length = T.ins.length) := Lib.hid rfl
  clear hbs HBP
  go_wp2_with fail
  ((refine (show Calls Tryd.prog _ #[.pointer (some ⟨p, 0, none⟩), .agg (RI.cells ⟨⟨15, 0, 0, 0, 32, [], 0, 0, [], [], 0, 0, ((NX : Nat) : Int), false⟩, none, 0, none, 0⟩).toArray] ws _ from HAD.out).mono ?_); rintro ee wa ⟨rfl, hbd⟩)
  have HB := Lib.hid hbd
  clear hbd HAD z0 z1 z2 z3 z4 z5 z6 z7 z8 z9 z10 z11 z12 z13
  obtain ⟨T1, hT1⟩ : ∃ X, (T.exit ex).push ⟨15, 0, 0, 0, 32, [], 0, 0, [], [], 0, 0, ((NX : Nat) : Int), false⟩ = X := ⟨_, rfl⟩
  rw [hT1] at HB HGR
  have HGG := Lib.hid HGR.out
  replace HS := Lib.hid (HGR.out.start HS.out (by have := HGG.out.len; have := HS.out.few; have := HGR.out.len; omega))
  clear hT1 HGR
  have HLT2 := Lib.hid HB.out.lt
  replace HB := Lib.hid (HB.out.more (.cells #[.string (sb [120]), .string (sb [121])] 9))
  go_wp2_with fail
  ((with_reducible refine (HPT.out wa).mono ?_); rintro ee w' ⟨rfl, rfl⟩)
  obtain ⟨gn, hgn⟩ : ∃ gn, wa.heap.size = gn := ⟨_, rfl⟩
  obtain ⟨w3, hw3⟩ : ∃ V : World, wa.alloc (.cells #[.string (sb [120]), .string (sb [121])] 9) = V := ⟨_, rfl⟩
  rw [hw3, hgn] at HB
  rw [hw3, hgn]
  clear hgn hw3 HLT2
  have HNM := Lib.hid (HB.out.at_ (.head _))
  have HAD := Lib.hid (bAdd HB.out ⟨⟨16, 0, 0, 0, 0, [], 0, 0, [], xy, 0, 0, -1, false⟩, none, 0, some ⟨gn, 0, none⟩, 2⟩ (fits_xy rfl rfl HNM.out) (by have := HS.out.few; omega))
  have HGR := Lib.hid (HS.out.push (x := ⟨16, 0, 0, 0, 0, [], 0, 0, [], xy, 0, 0, -1, false⟩) (.new) (by simp) ⟨by simp, by simp⟩)
  clear HB
  go_wp2_with fail
  ((refine (show Calls Tryd.prog _ #[.pointer (some ⟨p, 0, none⟩), .agg (RI.cells ⟨⟨16, 0, 0, 0, 0, [], 0, 0, [], xy, 0, 0, -1, false⟩, none, 0, some ⟨gn, 0, none⟩, 2⟩).toArray] w3 _ from HAD.out).mono ?_); rintro ee w4 ⟨rfl, hbd⟩)
  have HB := Lib.hid hbd
  clear hbd HAD
  obtain ⟨T2, hT2⟩ : ∃ X, T1.push ⟨16, 0, 0, 0, 0, [], 0, 0, [], xy, 0, 0, -1, false⟩ = X := ⟨_, rfl⟩
  have HVo := Lib.hid (VB.last HGR.out (rfl) (x := ⟨16, 0, 0, 0, 0, [], 0, 0, [], xy, 0, 0, -1, false⟩) rfl)
  rw [hT2] at HB HGR HVo
  replace HGG := Lib.hid (HGG.out.trans HGR.out)
  replace HS := Lib.hid (HGR.out.start HS.out (by have := HGG.out.len; have := HS.out.few; have := HGR.out.len; omega))
  clear hT2 HGR
  obtain ⟨o, ho⟩ : ∃ o : Int, ((T1.ins.length : Nat) : Int) = o := ⟨_, rfl⟩
  rw [ho] at HVo
  try rw [ho]
  clear ho HNM
  obtain ⟨A, ca, E, ce, hpc⟩ := HB.out.pcells
  have q6 := (blk_cell hpc 6).trans rfl
  clear hpc
  have HNX := Lib.hid (bNext HB.out ((pa : Int)) (by have := HS.out.p1; omega))
  clear HB
  go_wp2_with fail
  ((with_reducible refine HNX.out.mono ?_); rintro ee w5 ⟨r1, rfl, hr1, hbd⟩)
  have HB := Lib.hid hbd
  clear hbd HNX
  obtain ⟨r3, rfl⟩ : ∃ k : Nat, r1 = (k : Int) := ⟨r1.toNat, by omega⟩
  have HVr := Lib.hid (HS.out.param (r := r3) (by omega))
  clear q6
  have HNX := Lib.hid (bNext HB.out (2) (by have := HS.out.p1; omega))
  clear HB
  go_wp2_with fail
  ((with_reducible refine HNX.out.mono ?_); rintro ee w6 ⟨r2, rfl, hr2, hbd⟩)
  have HB := Lib.hid hbd
  clear hbd HNX
  have HAD := Lib.hid (bAdd HB.out ⟨⟨11, o, (r3 : Int), 0, r2, [], 0, 0, [], [], 0, 0, -1, false⟩, none, 0, none, 0⟩ (fits_none rfl rfl) (by have := HS.out.few; omega))
  have HGR := Lib.hid (HS.out.push (x := ⟨11, o, (r3 : Int), 0, r2, [], 0, 0, [], [], 0, 0, -1, false⟩) (.store _ _ _ HVo.out HVr.out (by omega)) (by simp) ⟨by simp, by simp⟩)
  clear HB
  go_wp2_with fail
  ((refine (show Calls Tryd.prog _ #[.pointer (some ⟨p, 0, none⟩), .agg (RI.cells ⟨⟨11, o, (r3 : Int), 0, r2, [], 0, 0, [], [], 0, 0, -1, false⟩, none, 0, none, 0⟩).toArray] w6 _ from HAD.out).mono ?_); rintro ee w7 ⟨rfl, hbd⟩)
  have HB := Lib.hid hbd
  clear hbd HAD
  obtain ⟨T3, hT3⟩ : ∃ X, T2.push ⟨11, o, (r3 : Int), 0, r2, [], 0, 0, [], [], 0, 0, -1, false⟩ = X := ⟨_, rfl⟩
  replace HVo := Lib.hid (HGR.out.vb HVo.out)
  rw [hT3] at HB HGR HVo
  replace HGG := Lib.hid (HGG.out.trans HGR.out)
  replace HS := Lib.hid (HGR.out.start HS.out (by have := HGG.out.len; have := HS.out.few; have := HGR.out.len; omega))
  clear hT3 HGR
  have HNX := Lib.hid (bNext HB.out (2) (by have := HS.out.p1; omega))
  clear HB
  go_wp2_with fail
  ((with_reducible refine HNX.out.mono ?_); rintro ee w8 ⟨r4, rfl, hr4, hbd⟩)
  have HB := Lib.hid hbd
  clear hbd HNX
  have HAD := Lib.hid (bAdd HB.out ⟨⟨10, o, 0, 0, r4, [], 0, 0, [], [], 0, 0, -1, false⟩, none, 0, none, 0⟩ (fits_none rfl rfl) (by have := HS.out.few; omega))
  have HGR := Lib.hid (HS.out.push (x := ⟨10, o, 0, 0, r4, [], 0, 0, [], [], 0, 0, -1, false⟩) (.load _ _ _ HVo.out (by omega)) (by simp) ⟨by simp, by simp⟩)
  clear HB
  go_wp2_with fail
  ((refine (show Calls Tryd.prog _ #[.pointer (some ⟨p, 0, none⟩), .agg (RI.cells ⟨⟨10, o, 0, 0, r4, [], 0, 0, [], [], 0, 0, -1, false⟩, none, 0, none, 0⟩).toArray] w8 _ from HAD.out).mono ?_); rintro ee w9 ⟨rfl, hbd⟩)
  have HB := Lib.hid hbd
  clear hbd HAD
  go_wp2_with fail
  refine bodyPost_end (results_none rfl _ _ _) rfl ?_
  obtain ⟨l, hl1, hl2⟩ := (HGG.out.trans HGR.out).pre
  exact ⟨rfl, _, ⟨(HGG.out.trans HGR.out).good, (HGG.out.trans HGR.out).body, l, hl1, by omega⟩, HB.out.less (fun x hx => (.tail _ (.tail _ hx)))⟩
end
end Go.Proofs.YtnbpgipbfejllaaDoor
