/- graph: the builder's step, cases [4, 6, 7, 8] -/
import Derived.Test.YtnbpgipbfejllaaDoorMG7x
namespace Go.Proofs.YtnbpgipbfejllaaDoor
open Go.RowKit Go.Lib
set_option linter.unusedVariables false
set_option linter.unusedSimpArgs false

section
variable {n : Nat} {w0 w : World} {p m : Nat} {T : TR} {fu : Int} {pa : Nat} {C : List (Nat × Obj)}
set_option maxRecDepth 100000 in
set_option maxHeartbeats 64000000 in
theorem step_4 (h : BD n w0 p m T fu (pa : Int) C w) (hs : Start pa T) (hfu : 0 ≤ fu ∧ fu ≤ 10) (hl : T.ins.length ≤ 800) (hnx : Calls Tryd.prog 73 #[.pointer (some ⟨m, 0, none⟩), .int .i64 14] w fun e w' => e = .returned (.int .i64 4) ∧ BD n w0 p m T fu (pa : Int) C w') :
    Calls Tryd.prog 76 #[.pointer (some ⟨p, 0, none⟩)] w fun e w' => e = .returned (.tuple #[]) ∧ ∃ T' : TR, Grow pa 4 T T' ∧ BD n w0 p m T' fu (pa : Int) C w' := by
  have HS := Lib.hid hs
  have HFU := Lib.hid hfu
  have HPT := Lib.hid point_any
  obtain ⟨A, ca, E, ce, hpc⟩ := h.pcells
  have q0 := (blk_cell hpc 0).trans rfl
  have HNX := Lib.hid hnx
  clear h hs hfu hpc hnx
  go_enter Tryd.func76, Tryd.ntmps76
  go_wp2_with fail
  ((with_reducible refine HNX.out.mono ?_); rintro ee w1 ⟨rfl, hbd⟩)
  have HB := Lib.hid hbd
  clear hbd HNX q0
  have HNX := Lib.hid (bNext HB.out (2) (by have := HS.out.p1; omega))
  clear HB
  go_wp2_with fail
  ((with_reducible refine HNX.out.mono ?_); rintro ee w2 ⟨r1, rfl, hr1, hbd⟩)
  have HB := Lib.hid hbd
  clear hbd HNX
  have HVL := Lib.hid (bVal HB.out HS.out)
  clear HB
  go_wp2_with fail
  ((with_reducible refine HVL.out.mono ?_); rintro ee w3 ⟨a, rfl, hv, hbd⟩)
  have HVa := Lib.hid hv
  have HB := Lib.hid hbd
  clear hv hbd HVL
  go_upto_region 12 with (fail)
  have HLT := Lib.hid HB.out.lt
  have HNB := Lib.hid HB.out.low'
  replace HB := Lib.hid (HB.out.more (.cells #[.int .i64 3, .int .i64 a, .int .i64 0, .int .i64 0, .int .i64 (3 + r1), .slice none 0 0, .int .i64 0, .int .i64 0, .string ⟨#[]⟩, .slice none 0 0, .int .i64 0, .int .i64 0, .int .i64 0, .bool false] 60))
  obtain ⟨w4, hw4⟩ : ∃ V : World, w3.alloc (.cells #[.int .i64 3, .int .i64 a, .int .i64 0, .int .i64 0, .int .i64 (3 + r1), .slice none 0 0, .int .i64 0, .int .i64 0, .string ⟨#[]⟩, .slice none 0 0, .int .i64 0, .int .i64 0, .int .i64 0, .bool false] 60) = V := ⟨_, rfl⟩
  obtain ⟨b, hb⟩ : ∃ b, w3.heap.size = b := ⟨_, rfl⟩
  rw [hw4, hb] at HB
  rw [hb] at HNB HLT
  rw [hw4]
  try rw [hb]
  have HCB := Lib.hid (show ∀ x ∈ C, x.1 ≠ b from fun x hx => by have := HLT.out x hx; omega)
  clear hw4 hb HLT
  have HLV := Lib.hid (bLeave HB.out HS.out HFU.out)
  obtain ⟨NX, hNX⟩ : ∃ NX, T.exits.length = NX := ⟨_, rfl⟩
  rw [hNX] at HLV
  have HNX := Lib.hid hNX
  clear HB hNX
  go_wp2_with fail
  ((with_reducible refine HLV.out.mono ?_); rintro ee wl ⟨rfl, ex, hex, hbd⟩)
  have HEX := Lib.hid hex
  have HBL := Lib.hid hbd
  have hbb := hbd.at_ (.head _)
  have q12 := (blk_cell hbb 12).trans rfl
  have f12 := blk_free hbb 12
  clear hex hbd hbb HLV
  go_upto_region 13 with (fail)
  have HBP := Lib.hid (HBL.out.put ⟨by decide, by decide, by decide⟩ HCB.out HNB.out 12 (.int .i64 (NX : Int)) (w' := wl))
  obtain ⟨ws, hws⟩ : ∃ ws : World, wl.setCell ⟨b, 12, none⟩ (.int .i64 (NX : Int)) = ws := ⟨_, rfl⟩
  rw [hws] at HBP
  rw [hws]
  clear hws q12 f12 HBL
  have hbs := HBP.out.at_ (.head _)
  have z0 : ws.cell? ⟨b, 0, none⟩ = some (.int .i64 3) := (blk_cell hbs 0).trans rfl
  have z1 : ws.cell? ⟨b, 1, none⟩ = some (.int .i64 a) := (blk_cell hbs 1).trans rfl
  have z2 : ws.cell? ⟨b, 2, none⟩ = some (.int .i64 0) := (blk_cell hbs 2).trans rfl
  have z3 : ws.cell? ⟨b, 3, none⟩ = some (.int .i64 0) := (blk_cell hbs 3).trans rfl
  have z4 : ws.cell? ⟨b, 4, none⟩ = some (.int .i64 (3 + r1)) := (blk_cell hbs 4).trans rfl
  have z5 : ws.cell? ⟨b, 5, none⟩ = some (.slice none 0 0) := (blk_cell hbs 5).trans rfl
  have z6 : ws.cell? ⟨b, 6, none⟩ = some (.int .i64 0) := (blk_cell hbs 6).trans rfl
  have z7 : ws.cell? ⟨b, 7, none⟩ = some (.int .i64 0) := (blk_cell hbs 7).trans rfl
  have z8 : ws.cell? ⟨b, 8, none⟩ = some (.string ⟨#[]⟩) := (blk_cell hbs 8).trans rfl
  have z9 : ws.cell? ⟨b, 9, none⟩ = some (.slice none 0 0) := (blk_cell hbs 9).trans rfl
  have z10 : ws.cell? ⟨b, 10, none⟩ = some (.int .i64 0) := (blk_cell hbs 10).trans rfl
  have z11 : ws.cell? ⟨b, 11, none⟩ = some (.int .i64 0) := (blk_cell hbs 11).trans rfl
  have z12 : ws.cell? ⟨b, 12, none⟩ = some (.int .i64 (NX : Int)) := (blk_cell hbs 12).trans rfl
  have z13 : ws.cell? ⟨b, 13, none⟩ = some (.bool false) := (blk_cell hbs 13).trans rfl
  have HAD := Lib.hid (bAdd HBP.out ⟨⟨3, a, 0, 0, 3 + r1, [], 0, 0, [], [], 0, 0, ((NX : Nat) : Int), false⟩, none, 0, none, 0⟩ (fits_none rfl rfl) (by have := HS.out.few; show T.ins.length ≤ 1000; omega))
  have HGR := Lib.hid (HS.out.leave (x := ⟨3, a, 0, 0, 3 + r1, [], 0, 0, [], [], 0, 0, ((NX : Nat) : Int), false⟩) HEX.out (.unary _ _ _ _ HVa.out (by omega) (by omega)) (by rw [HNX.out]) ⟨by simp, by simp⟩)
  have HILN : Hid ((T.exit ex).ins.length = T.ins.length) := Lib.hid rfl
  clear hbs HBP
  go_wp2_with fail
  ((refine (show Calls Tryd.prog _ #[.pointer (some ⟨p, 0, none⟩), .agg (RI.cells ⟨⟨3, a, 0, 0, 3 + r1, [], 0, 0, [], [], 0, 0, ((NX : Nat) : Int), false⟩, none, 0, none, 0⟩).toArray] ws _ from HAD.out).mono ?_); rintro ee wa ⟨rfl, hbd⟩)
  have HB := Lib.hid hbd
  clear hbd HAD z0 z1 z2 z3 z4 z5 z6 z7 z8 z9 z10 z11 z12 z13
  go_wp2_with fail
  refine bodyPost_end (results_none rfl _ _ _) rfl ?_
  obtain ⟨l, hl1, hl2⟩ := HGR.out.pre
  exact ⟨rfl, _, ⟨HGR.out.good, HGR.out.body, l, hl1, by omega⟩, HB.out.less (fun x hx => (.tail _ hx))⟩
set_option maxRecDepth 100000 in
set_option maxHeartbeats 64000000 in
theorem step_6 (h : BD n w0 p m T fu (pa : Int) C w) (hs : Start pa T) (hfu : 0 ≤ fu ∧ fu ≤ 10) (hl : T.ins.length ≤ 800) (hnx : Calls Tryd.prog 73 #[.pointer (some ⟨m, 0, none⟩), .int .i64 14] w fun e w' => e = .returned (.int .i64 6) ∧ BD n w0 p m T fu (pa : Int) C w') :
    Calls Tryd.prog 76 #[.pointer (some ⟨p, 0, none⟩)] w fun e w' => e = .returned (.tuple #[]) ∧ ∃ T' : TR, Grow pa 4 T T' ∧ BD n w0 p m T' fu (pa : Int) C w' := by
  have HS := Lib.hid hs
  have HFU := Lib.hid hfu
  have HPT := Lib.hid point_any
  obtain ⟨A, ca, E, ce, hpc⟩ := h.pcells
  have q0 := (blk_cell hpc 0).trans rfl
  have HNX := Lib.hid hnx
  clear h hs hfu hpc hnx
  go_enter Tryd.func76, Tryd.ntmps76
  go_wp2_with fail
  ((with_reducible refine HNX.out.mono ?_); rintro ee w1 ⟨rfl, hbd⟩)
  have HB := Lib.hid hbd
  clear hbd HNX q0
  have HSH := Lib.hid (shape_any HB.out HS.out HFU.out)
  clear HB
  go_wp2_with fail
  ((with_reducible refine HSH.out.mono ?_); rintro ee w2 ⟨a, rfl, hv, T1, hgr, hbd⟩)
  have HGG := Lib.hid hgr
  have HVa := Lib.hid (hgr.vb hv)
  have HB := Lib.hid hbd
  replace HS := Lib.hid (hgr.start HS.out (by omega))
  clear hv hgr hbd HSH
  have HNX := Lib.hid (bNext HB.out (2) (by have := HS.out.p1; omega))
  clear HB
  go_wp2_with fail
  ((with_reducible refine HNX.out.mono ?_); rintro ee w3 ⟨r1, rfl, hr1, hbd⟩)
  have HB := Lib.hid hbd
  clear hbd HNX
  have HAD := Lib.hid (bAdd HB.out ⟨⟨10, a, 0, 0, r1, [], 0, 0, [], [], 0, 0, -1, false⟩, none, 0, none, 0⟩ (fits_none rfl rfl) (by have := HS.out.few; omega))
  have HGR := Lib.hid (HS.out.push (x := ⟨10, a, 0, 0, r1, [], 0, 0, [], [], 0, 0, -1, false⟩) (.load _ _ _ HVa.out (by omega)) (by simp) ⟨by simp, by simp⟩)
  clear HB
  go_wp2_with fail
  ((refine (show Calls Tryd.prog _ #[.pointer (some ⟨p, 0, none⟩), .agg (RI.cells ⟨⟨10, a, 0, 0, r1, [], 0, 0, [], [], 0, 0, -1, false⟩, none, 0, none, 0⟩).toArray] w3 _ from HAD.out).mono ?_); rintro ee w4 ⟨rfl, hbd⟩)
  have HB := Lib.hid hbd
  clear hbd HAD
  go_wp2_with fail
  refine bodyPost_end (results_none rfl _ _ _) rfl ?_
  obtain ⟨l, hl1, hl2⟩ := (HGG.out.trans HGR.out).pre
  exact ⟨rfl, _, ⟨(HGG.out.trans HGR.out).good, (HGG.out.trans HGR.out).body, l, hl1, by omega⟩, HB.out.less (fun x hx => hx)⟩
set_option maxRecDepth 100000 in
set_option maxHeartbeats 64000000 in
theorem step_7 (h : BD n w0 p m T fu (pa : Int) C w) (hs : Start pa T) (hfu : 0 ≤ fu ∧ fu ≤ 10) (hl : T.ins.length ≤ 800) (hnx : Calls Tryd.prog 73 #[.pointer (some ⟨m, 0, none⟩), .int .i64 14] w fun e w' => e = .returned (.int .i64 7) ∧ BD n w0 p m T fu (pa : Int) C w') :
    Calls Tryd.prog 76 #[.pointer (some ⟨p, 0, none⟩)] w fun e w' => e = .returned (.tuple #[]) ∧ ∃ T' : TR, Grow pa 4 T T' ∧ BD n w0 p m T' fu (pa : Int) C w' := by
  have HS := Lib.hid hs
  have HFU := Lib.hid hfu
  have HPT := Lib.hid point_any
  obtain ⟨A, ca, E, ce, hpc⟩ := h.pcells
  have q0 := (blk_cell hpc 0).trans rfl
  have HNX := Lib.hid hnx
  clear h hs hfu hpc hnx
  go_enter Tryd.func76, Tryd.ntmps76
  go_wp2_with fail
  ((with_reducible refine HNX.out.mono ?_); rintro ee w1 ⟨rfl, hbd⟩)
  have HB := Lib.hid hbd
  clear hbd HNX q0
  have HSH := Lib.hid (shape_any HB.out HS.out HFU.out)
  clear HB
  go_wp2_with fail
  ((with_reducible refine HSH.out.mono ?_); rintro ee w2 ⟨a, rfl, hv, T1, hgr, hbd⟩)
  have HGG := Lib.hid hgr
  have HVa := Lib.hid (hgr.vb hv)
  have HB := Lib.hid hbd
  replace HS := Lib.hid (hgr.start HS.out (by omega))
  clear hv hgr hbd HSH
  have HNX := Lib.hid (bNext HB.out (2) (by have := HS.out.p1; omega))
  clear HB
  go_wp2_with fail
  ((with_reducible refine HNX.out.mono ?_); rintro ee w3 ⟨r1, rfl, hr1, hbd⟩)
  have HB := Lib.hid hbd
  clear hbd HNX
  have HAD := Lib.hid (bAdd HB.out ⟨⟨10, a, 0, 0, r1, [], 0, 0, [], [], 0, 0, -1, false⟩, none, 0, none, 0⟩ (fits_none rfl rfl) (by have := HS.out.few; omega))
  have HGR := Lib.hid (HS.out.push (x := ⟨10, a, 0, 0, r1, [], 0, 0, [], [], 0, 0, -1, false⟩) (.load _ _ _ HVa.out (by omega)) (by simp) ⟨by simp, by simp⟩)
  clear HB
  go_wp2_with fail
  ((refine (show Calls Tryd.prog _ #[.pointer (some ⟨p, 0, none⟩), .agg (RI.cells ⟨⟨10, a, 0, 0, r1, [], 0, 0, [], [], 0, 0, -1, false⟩, none, 0, none, 0⟩).toArray] w3 _ from HAD.out).mono ?_); rintro ee w4 ⟨rfl, hbd⟩)
  have HB := Lib.hid hbd
  clear hbd HAD
  go_wp2_with fail
  refine bodyPost_end (results_none rfl _ _ _) rfl ?_
  obtain ⟨l, hl1, hl2⟩ := (HGG.out.trans HGR.out).pre
  exact ⟨rfl, _, ⟨(HGG.out.trans HGR.out).good, (HGG.out.trans HGR.out).body, l, hl1, by omega⟩, HB.out.less (fun x hx => hx)⟩
set_option maxRecDepth 100000 in
set_option maxHeartbeats 64000000 in
theorem step_8 (h : BD n w0 p m T fu (pa : Int) C w) (hs : Start pa T) (hfu : 0 ≤ fu ∧ fu ≤ 10) (hl : T.ins.length ≤ 800) (hnx : Calls Tryd.prog 73 #[.pointer (some ⟨m, 0, none⟩), .int .i64 14] w fun e w' => e = .returned (.int .i64 8) ∧ BD n w0 p m T fu (pa : Int) C w') :
    Calls Tryd.prog 76 #[.pointer (some ⟨p, 0, none⟩)] w fun e w' => e = .returned (.tuple #[]) ∧ ∃ T' : TR, Grow pa 4 T T' ∧ BD n w0 p m T' fu (pa : Int) C w' := by
  have HS := Lib.hid hs
  have HFU := Lib.hid hfu
  have HPT := Lib.hid point_any
  obtain ⟨A, ca, E, ce, hpc⟩ := h.pcells
  have q0 := (blk_cell hpc 0).trans rfl
  have HNX := Lib.hid hnx
  clear h hs hfu hpc hnx
  go_enter Tryd.func76, Tryd.ntmps76
  go_wp2_with fail
  ((with_reducible refine HNX.out.mono ?_); rintro ee w1 ⟨rfl, hbd⟩)
  have HB := Lib.hid hbd
  clear hbd HNX q0
  have HSH := Lib.hid (shape_any HB.out HS.out HFU.out)
  clear HB
  go_wp2_with fail
  ((with_reducible refine HSH.out.mono ?_); rintro ee w2 ⟨a, rfl, hv, T1, hgr, hbd⟩)
  have HGG := Lib.hid hgr
  have HVa := Lib.hid (hgr.vb hv)
  have HB := Lib.hid hbd
  replace HS := Lib.hid (hgr.start HS.out (by omega))
  clear hv hgr hbd HSH
  have HVL := Lib.hid (bVal HB.out HS.out)
  clear HB
  go_wp2_with fail
  ((with_reducible refine HVL.out.mono ?_); rintro ee w3 ⟨b1, rfl, hv, hbd⟩)
  have HVb1 := Lib.hid hv
  have HB := Lib.hid hbd
  clear hv hbd HVL
  have HNX := Lib.hid (bNext HB.out (2) (by have := HS.out.p1; omega))
  clear HB
  go_wp2_with fail
  ((with_reducible refine HNX.out.mono ?_); rintro ee w4 ⟨r1, rfl, hr1, hbd⟩)
  have HB := Lib.hid hbd
  clear hbd HNX
  have HAD := Lib.hid (bAdd HB.out ⟨⟨11, a, b1, 0, r1, [], 0, 0, [], [], 0, 0, -1, false⟩, none, 0, none, 0⟩ (fits_none rfl rfl) (by have := HS.out.few; omega))
  have HGR := Lib.hid (HS.out.push (x := ⟨11, a, b1, 0, r1, [], 0, 0, [], [], 0, 0, -1, false⟩) (.store _ _ _ HVa.out HVb1.out (by omega)) (by simp) ⟨by simp, by simp⟩)
  clear HB
  go_wp2_with fail
  ((refine (show Calls Tryd.prog _ #[.pointer (some ⟨p, 0, none⟩), .agg (RI.cells ⟨⟨11, a, b1, 0, r1, [], 0, 0, [], [], 0, 0, -1, false⟩, none, 0, none, 0⟩).toArray] w4 _ from HAD.out).mono ?_); rintro ee w5 ⟨rfl, hbd⟩)
  have HB := Lib.hid hbd
  clear hbd HAD
  go_wp2_with fail
  refine bodyPost_end (results_none rfl _ _ _) rfl ?_
  obtain ⟨l, hl1, hl2⟩ := (HGG.out.trans HGR.out).pre
  exact ⟨rfl, _, ⟨(HGG.out.trans HGR.out).good, (HGG.out.trans HGR.out).body, l, hl1, by omega⟩, HB.out.less (fun x hx => hx)⟩
end
end Go.Proofs.YtnbpgipbfejllaaDoor
