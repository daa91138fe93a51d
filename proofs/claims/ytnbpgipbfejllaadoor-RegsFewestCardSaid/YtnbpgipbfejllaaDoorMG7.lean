/- graph: the builder's step. -/
import Derived.Test.YtnbpgipbfejllaaDoorMG7a
import Derived.Test.YtnbpgipbfejllaaDoorMG7b
import Derived.Test.YtnbpgipbfejllaaDoorMG7c
import Derived.Test.YtnbpgipbfejllaaDoorMG7d
import Derived.Test.YtnbpgipbfejllaaDoorMG7e
import Derived.Test.YtnbpgipbfejllaaDoorMG6
import Derived.Laws.ResultCell
namespace Go.Proofs.YtnbpgipbfejllaaDoor
open Go.RowKit Go.Lib
set_option linter.unusedVariables false
set_option linter.unusedSimpArgs false

section
variable {n : Nat} {w0 w : World} {p m : Nat} {T : TR} {fu : Int} {pa : Nat} {C : List (Nat × Obj)}
theorem step_any (h : BD n w0 p m T fu (pa : Int) C w) (hs : Start pa T) (hfu : 0 ≤ fu ∧ fu ≤ 10) (hl : T.ins.length ≤ 800) :
    Calls Tryd.prog 76 #[.pointer (some ⟨p, 0, none⟩)] w fun e w' => e = .returned (.tuple #[]) ∧ ∃ T' : TR, Grow pa 4 T T' ∧ BD n w0 p m T' fu (pa : Int) C w' := by
  obtain ⟨r, hr, hnx⟩ := bNext_ex h 14 (by omega)
  rcases (show r = 0 ∨ r = 1 ∨ r = 2 ∨ r = 3 ∨ r = 4 ∨ r = 5 ∨ r = 6 ∨ r = 7 ∨ r = 8 ∨ r = 9 ∨ r = 10 ∨ r = 11 ∨ r = 12 ∨ r = 13 by omega) with rfl | rfl | rfl | rfl | rfl | rfl | rfl | rfl | rfl | rfl | rfl | rfl | rfl | rfl
  · exact step_0 h hs hfu hl hnx
  · exact step_1 h hs hfu hl hnx
  · exact step_2 h hs hfu hl hnx
  · exact step_3 h hs hfu hl hnx
  · exact step_4 h hs hfu hl hnx
  · exact step_5 h hs hfu hl hnx
  · exact step_6 h hs hfu hl hnx
  · exact step_7 h hs hfu hl hnx
  · exact step_8 h hs hfu hl hnx
  · exact step_9 h hs hfu hl hnx
  · exact step_10 h hs hfu hl hnx
  · exact step_11 h hs hfu hl hnx
  · exact step_12 h hs hfu hl hnx
  · exact step_13 h hs hfu hl hnx
end
end Go.Proofs.YtnbpgipbfejllaaDoor
/- graph: Made makes a right trace. -/
namespace Go.Proofs.YtnbpgipbfejllaaDoor
open Go.RowKit Go.Lib
set_option linter.unusedVariables false
set_option linter.unusedSimpArgs false

theorem cells14 {cs : Array Value} (h : cs.size = 14) : ∃ a b c d e f g i j k l m n o, cs = #[a, b, c, d, e, f, g, i, j, k, l, m, n, o] := by
  obtain ⟨l⟩ := cs
  match l, h with
  | [a, b, c, d, e, f, g, i, j, k, l, m, n, o], _ => exact ⟨a, b, c, d, e, f, g, i, j, k, l, m, n, o, rfl⟩
set_option maxRecDepth 100000 in
set_option maxHeartbeats 64000000 in
theorem made_any (W : World) {A : Option Addr} {nl cl : Nat} {xs : List Int} (hA : IntsAt W A nl xs) (hnl : nl ≤ 140737488351232) :
    Calls Tryd.prog 49 #[.slice A nl cl] W fun e w' => ∃ (v : Value) (P : Nat) (T : TR), e = .returned v ∧ RightT P T ∧ TraceAt w' v T ∧ Since W.heap.size W w' := by
  have HB0 := Lib.hid (bd_init (cl := cl) hA hnl (.cells #[.int .i64 0, .int .i64 0, .slice none 0 0, .slice none 0 0] 31 (0, 0)))
  have HFU : Hid ((0 : Int) ≤ 0 ∧ (0 : Int) ≤ 10) := Lib.hid ⟨by omega, by omega⟩
  clear hA hnl
  go_enter Tryd.func49, Tryd.ntmps49
  go_upto_region 2 with (fail)
  obtain ⟨R, hR⟩ : ∃ R, W.heap.size = R := ⟨_, rfl⟩
  obtain ⟨m, hm⟩ : ∃ m, R + 1 = m := ⟨_, rfl⟩
  obtain ⟨p, hp⟩ : ∃ p, R + 2 = p := ⟨_, rfl⟩
  have hp2 : R + 1 + 1 = p := by omega
  have hp3 : m + 1 = p := by omega
  rw [hR, hm, hp] at HB0
  try rw [hR]
  try rw [hm]
  try rw [hp]
  try rw [hp2]
  try rw [hp3]
  have HR := Lib.hid hR
  obtain ⟨w1, hw1⟩ : ∃ w1 : World, ((W.alloc (.cells #[.int .i64 0, .int .i64 0, .slice none 0 0, .slice none 0 0] 31)).alloc (.cells #[.slice A nl cl, .int .i64 0] 125)).alloc (.cells #[.pointer (some ⟨m, 0, none⟩), .int .i64 0, .int .i64 0, .slice none 0 0, .slice none 0 0, .int .i64 0, .int .i64 0] 127) = w1 := ⟨_, rfl⟩
  rw [hw1] at HB0
  rw [hw1]
  obtain ⟨C0, hC0⟩ : ∃ C0, [(R, Obj.cells #[.int .i64 0, .int .i64 0, .slice none 0 0, .slice none 0 0] 31 (0, 0))] = C0 := ⟨_, rfl⟩
  have HC0 := Lib.hid hC0
  rw [hC0] at HB0
  have HCL := Lib.hid (show ∀ x ∈ C0, x.1 < w1.heap.size from HB0.out.lt)
  clear hR hm hp hp2 hp3 hw1 hC0
  have HB := HB0
  clear HB0
  obtain ⟨A1, ca, E1, ce, hpc, _⟩ := HB.out.cells
  have q0 := (blk_cell hpc 0).trans rfl
  have HNX := Lib.hid (bNext HB.out 4 (by omega))
  clear HB hpc
  go_wp2_with fail
  ((with_reducible refine HNX.out.mono ?_); rintro ee w2 ⟨r, rfl, hr, hbd⟩)
  obtain ⟨r0, rfl⟩ : ∃ k : Nat, r = (k : Int) := ⟨r.toNat, by omega⟩
  obtain ⟨A1, ca, E1, ce, hpc, _⟩ := hbd.cells
  have q6 := (blk_cell hpc 6).trans rfl
  have f6 := blk_free hpc 6
  have HB := Lib.hid (hbd.setH 6 (1 + (r0 : Int)) 0 (1 + (r0 : Int)) (.inr ⟨rfl, rfl, rfl⟩))
  clear hbd hpc HNX q0
  go_wp2_with fail
  obtain ⟨Pn, hPn⟩ : ∃ P, 1 + r0 = P := ⟨_, rfl⟩
  have ePn : (1 : Int) + (r0 : Int) = (Pn : Int) := by omega
  have hPb : 1 ≤ Pn ∧ Pn ≤ 4 := by omega
  obtain ⟨w3, hw3⟩ : ∃ w3 : World, w2.setCell ⟨p, 6, none⟩ (.int .i64 (1 + (r0 : Int))) = w3 := ⟨_, rfl⟩
  rw [hw3] at HB
  rw [hw3]
  rw [ePn] at HB
  try rw [ePn]
  have HPB := Lib.hid hPb
  clear hw3 ePn hPn hPb q6 f6 hr
  have V0 := Lib.hid (show (GoodT Pn T0 ∧ Body T0 ∧ T0.ins.length = 0) ∧ BD R W p m T0 0 (Pn : Int) C0 w3 from ⟨⟨⟨⟨rfl, rfl⟩, Nat.le_refl _, fun k hk => absurd hk (by simp [T0]), fun k hk => absurd hk (by simp [T0]), fun j k _ hk => absurd hk (by simp [T0]), fun e he => absurd he (by simp [T0])⟩, fun k hk => absurd hk (by simp [T0]), rfl⟩, HB.out⟩)
  clear HB
  go_loopw [4] (fun i wr => ∃ k : Nat, k ≤ Pn ∧ i = .int .i64 (k : Int) ∧ ∃ T : TR, Hid ((GoodT Pn T ∧ Body T ∧ T.ins.length = k) ∧ BD R W p m T 0 (Pn : Int) C0 wr)) (fun i _ => Pn + 1 - (RowKit.intOf i).toNat)
  case atStart => exact ⟨0, Nat.zero_le _, rfl, T0, V0⟩
  case round =>
    obtain ⟨k, hk, rfl, T, VV⟩ := hrel
    obtain ⟨wo, rfl⟩ : ∃ wo : World, wo = wr := ⟨_, rfl⟩
    clear V0
    obtain ⟨A1, ca, E1, ce, hpc, _⟩ := VV.out.2.cells
    have q6 := (blk_cell hpc 6).trans rfl
    have q0 := (blk_cell hpc 0).trans rfl
    clear hpc
    have hk64 : k ≤ 4 := by have := HPB.out; omega
    by_cases hlt : k < Pn
    · have hb1 : decide (k < Pn) = true := by simpa using hlt
      have HAD := Lib.hid (bAdd VV.out.2 ⟨⟨1, 0, 0, 0, 0, [], 3, (k : Int), [], [], 0, 0, -1, false⟩, none, 0, none, 0⟩ (fits_none rfl rfl) (by have := VV.out.1.2.2; have := HPB.out; omega))
      have HG := Lib.hid (VV.out.1.1.push (x := ⟨1, 0, 0, 0, 0, [], 3, (k : Int), [], [], 0, 0, -1, false⟩) (by rw [VV.out.1.2.2]; exact .param hlt) (fun _ => rfl) (by simp))
      go_wp2_with fail
      ((refine (show Calls Tryd.prog _ #[.pointer (some ⟨p, 0, none⟩), .agg (RI.cells ⟨⟨1, 0, 0, 0, 0, [], 3, (k : Int), [], [], 0, 0, -1, false⟩, none, 0, none, 0⟩).toArray] wo _ from HAD.out).mono ?_); rintro ee wa ⟨rfl, hbd⟩)
      have VN := Lib.hid (show (GoodT Pn (T.push ⟨1, 0, 0, 0, 0, [], 3, (k : Int), [], [], 0, 0, -1, false⟩) ∧ Body (T.push ⟨1, 0, 0, 0, 0, [], 3, (k : Int), [], [], 0, 0, -1, false⟩) ∧ (T.push ⟨1, 0, 0, 0, 0, [], 3, (k : Int), [], [], 0, 0, -1, false⟩).ins.length = k + 1) ∧ BD R W p m (T.push ⟨1, 0, 0, 0, 0, [], 3, (k : Int), [], [], 0, 0, -1, false⟩) 0 (Pn : Int) C0 wa from ⟨⟨HG.out, VV.out.1.2.1.push ⟨by simp, by simp⟩, by rw [push_len, VV.out.1.2.2]⟩, hbd⟩)
      clear hbd HAD HG q6 q0
      go_wp2_with fail
      exact ⟨⟨k + 1, by omega, by go_num, _, VN⟩, by simp [RowKit.intOf]; omega⟩
    · have hb1 : decide (k < Pn) = false := by simpa using hlt
      obtain rfl : k = Pn := by omega
      have HNX := Lib.hid (bNext VV.out.2 4 (by omega))
      have HS := Lib.hid (show Start k T from ⟨VV.out.1.1, VV.out.1.2.1, by have := VV.out.1.2.2; omega, HPB.out, by have := VV.out.1.2.2; have := HPB.out; omega⟩)
      have HTL := Lib.hid VV.out.1.2.2
      clear VV
      go_wp2_with fail
      ((with_reducible refine HNX.out.mono ?_); rintro ee w4 ⟨r, rfl, hr, hbd⟩)
      obtain ⟨A1, ca, E1, ce, hpc, _⟩ := hbd.cells
      have q5 := (blk_cell hpc 5).trans rfl
      have f5 := blk_free hpc 5
      have HB := Lib.hid (hbd.setH 5 (1 + r) (1 + r) (k : Int) (.inl ⟨rfl, rfl, rfl⟩))
      clear hbd hpc HNX q6 q0
      go_upto_region 8 with (fail)
      obtain ⟨fu, hfu⟩ : ∃ fu, 1 + r = fu := ⟨_, rfl⟩
      obtain ⟨w5, hw5⟩ : ∃ w5 : World, w4.setCell ⟨p, 5, none⟩ (.int .i64 (1 + r)) = w5 := ⟨_, rfl⟩
      rw [hw5] at HB
      rw [hw5]
      rw [hfu] at HB
      try rw [hfu]
      have HFF := Lib.hid (show 1 ≤ fu ∧ fu ≤ 4 by omega)
      clear hw5 hfu q5 f5 hr
      obtain ⟨A1, ca, E1, ce, hpc, _⟩ := HB.out.cells
      have q5 := (blk_cell hpc 5).trans rfl
      clear hpc
      go_upto_region 9 with (fail)
      have HLT := Lib.hid HB.out.lt
      have HNB := Lib.hid HB.out.low'
      replace HB := Lib.hid (HB.out.more (.cells #[.int .i64 18, .int .i64 0, .int .i64 0, .int .i64 0, .int .i64 fu, .slice none 0 0, .int .i64 0, .int .i64 0, .string ⟨#[]⟩, .slice none 0 0, .int .i64 0, .int .i64 0, .int .i64 0, .bool false] 60))
      obtain ⟨w6, hw6⟩ : ∃ V : World, w5.alloc (.cells #[.int .i64 18, .int .i64 0, .int .i64 0, .int .i64 0, .int .i64 fu, .slice none 0 0, .int .i64 0, .int .i64 0, .string ⟨#[]⟩, .slice none 0 0, .int .i64 0, .int .i64 0, .int .i64 0, .bool false] 60) = V := ⟨_, rfl⟩
      obtain ⟨b, hb⟩ : ∃ b, w5.heap.size = b := ⟨_, rfl⟩
      rw [hw6, hb] at HB
      rw [hb] at HNB HLT
      rw [hw6]
      try rw [hb]
      have HCB := Lib.hid (show ∀ x ∈ C0, x.1 ≠ b from fun x hx => by have := HLT.out x hx; omega)
      clear hw6 hb HLT
      obtain ⟨A1, ca, E1, ce, hpc, _⟩ := HB.out.cells
      have q5' := (blk_cell hpc 5).trans rfl
      have f5 := blk_free hpc 5
      replace HB := Lib.hid (HB.out.setH 5 0 0 (k : Int) (.inl ⟨rfl, rfl, rfl⟩))
      clear hpc q5
      go_upto_region 11 with (fail)
      obtain ⟨w7, hw7⟩ : ∃ w7 : World, w6.setCell ⟨p, 5, none⟩ (.int .i64 0) = w7 := ⟨_, rfl⟩
      rw [hw7] at HB
      rw [hw7]
      clear hw7 q5' f5
      have HLV := Lib.hid (bLeave HB.out HS.out HFU.out)
      obtain ⟨NX, hNX⟩ : ∃ NX, T.exits.length = NX := ⟨_, rfl⟩
      rw [hNX] at HLV
      have HNX := Lib.hid hNX
      clear HB hNX
      go_wp2_with fail
      ((with_reducible refine HLV.out.mono ?_); rintro ee wl ⟨rfl, ex, hex, hbd⟩)
      have HEX := Lib.hid hex
      have HBL := Lib.hid hbd
      have hbb := hbd.at_ (.head _)
      have q12 := (blk_cell hbb 12).trans rfl
      have f12 := blk_free hbb 12
      clear hex hbd hbb HLV
      go_upto_region 12 with (fail)
      have HBP := Lib.hid (HBL.out.put ⟨by decide, by decide, by decide⟩ HCB.out HNB.out 12 (.int .i64 (NX : Int)) (w' := wl))
      obtain ⟨ws, hws⟩ : ∃ ws : World, wl.setCell ⟨b, 12, none⟩ (.int .i64 (NX : Int)) = ws := ⟨_, rfl⟩
      rw [hws] at HBP
      rw [hws]
      clear hws q12 f12 HBL
      obtain ⟨A1, ca, E1, ce, hpc, _⟩ := HBP.out.cells
      have q5 := (blk_cell hpc 5).trans rfl
      have f5 := blk_free hpc 5
      replace HBP := Lib.hid (HBP.out.setH 5 fu fu (k : Int) (.inl ⟨rfl, rfl, rfl⟩))
      clear hpc
      go_upto_region 13 with (fail)
      obtain ⟨wt, hwt⟩ : ∃ w7 : World, ws.setCell ⟨p, 5, none⟩ (.int .i64 fu) = w7 := ⟨_, rfl⟩
      rw [hwt] at HBP
      rw [hwt]
      clear hwt q5 f5
      have hbs := HBP.out.at_ (.head _)
      have z0 : wt.cell? ⟨b, 0, none⟩ = some (.int .i64 18) := (blk_cell hbs 0).trans rfl
      have z1 : wt.cell? ⟨b, 1, none⟩ = some (.int .i64 0) := (blk_cell hbs 1).trans rfl
      have z2 : wt.cell? ⟨b, 2, none⟩ = some (.int .i64 0) := (blk_cell hbs 2).trans rfl
      have z3 : wt.cell? ⟨b, 3, none⟩ = some (.int .i64 0) := (blk_cell hbs 3).trans rfl
      have z4 : wt.cell? ⟨b, 4, none⟩ = some (.int .i64 fu) := (blk_cell hbs 4).trans rfl
      have z5 : wt.cell? ⟨b, 5, none⟩ = some (.slice none 0 0) := (blk_cell hbs 5).trans rfl
      have z6 : wt.cell? ⟨b, 6, none⟩ = some (.int .i64 0) := (blk_cell hbs 6).trans rfl
      have z7 : wt.cell? ⟨b, 7, none⟩ = some (.int .i64 0) := (blk_cell hbs 7).trans rfl
      have z8 : wt.cell? ⟨b, 8, none⟩ = some (.string ⟨#[]⟩) := (blk_cell hbs 8).trans rfl
      have z9 : wt.cell? ⟨b, 9, none⟩ = some (.slice none 0 0) := (blk_cell hbs 9).trans rfl
      have z10 : wt.cell? ⟨b, 10, none⟩ = some (.int .i64 0) := (blk_cell hbs 10).trans rfl
      have z11 : wt.cell? ⟨b, 11, none⟩ = some (.int .i64 0) := (blk_cell hbs 11).trans rfl
      have z12 : wt.cell? ⟨b, 12, none⟩ = some (.int .i64 (NX : Int)) := (blk_cell hbs 12).trans rfl
      have z13 : wt.cell? ⟨b, 13, none⟩ = some (.bool false) := (blk_cell hbs 13).trans rfl
      have HAD := Lib.hid (bAdd HBP.out ⟨⟨18, 0, 0, 0, fu, [], 0, 0, [], [], 0, 0, ((NX : Nat) : Int), false⟩, none, 0, none, 0⟩ (fits_none rfl rfl) (by have := HS.out.few; show T.ins.length ≤ 1000; omega))
      have HGR := Lib.hid (HS.out.leave (x := ⟨18, 0, 0, 0, fu, [], 0, 0, [], [], 0, 0, ((NX : Nat) : Int), false⟩) HEX.out (.fuel _ _ HFF.out (by omega)) (by rw [HNX.out]) ⟨by simp, by simp⟩)
      clear hbs HBP
      go_wp2_with fail
      ((refine (show Calls Tryd.prog _ #[.pointer (some ⟨p, 0, none⟩), .agg (RI.cells ⟨⟨18, 0, 0, 0, fu, [], 0, 0, [], [], 0, 0, ((NX : Nat) : Int), false⟩, none, 0, none, 0⟩).toArray] wt _ from HAD.out).mono ?_); rintro ee wa ⟨rfl, hbd⟩)
      have HB := Lib.hid hbd
      obtain ⟨T1, hT1⟩ : ∃ X, (T.exit ex).push ⟨18, 0, 0, 0, fu, [], 0, 0, [], [], 0, 0, ((NX : Nat) : Int), false⟩ = X := ⟨_, rfl⟩
      rw [hT1] at HB HGR
      have HS1 := Lib.hid (HGR.out.start HS.out (by have := HTL.out; have := HPB.out; omega))
      have HTL1 := Lib.hid (show T1.ins.length ≤ k + 1 from by have := HGR.out.len; have := HTL.out; omega)
      obtain ⟨bc, hbc⟩ : ∃ cs : Array Value, #[.int .i64 18, .int .i64 0, .int .i64 0, .int .i64 0, .int .i64 fu, .slice none 0 0, .int .i64 0, .int .i64 0, .string ⟨#[]⟩, .slice none 0 0, .int .i64 0, .int .i64 0, .int .i64 0, .bool false].setIfInBounds 12 (.int .i64 (NX : Int)) = cs := ⟨_, rfl⟩
      rw [hbc] at HB
      have hbcs : bc.size = 14 := by rw [← hbc]; rfl
      have HBS := Lib.hid hbcs
      clear hbd HAD hT1 hbc hbcs HGR HS HTL HNX HEX HFU z0 z1 z2 z3 z4 z5 z6 z7 z8 z9 z10 z11 z12 z13
      obtain ⟨A1, ca, E1, ce, hpc, _⟩ := HB.out.cells
      have q0 := (blk_cell hpc 0).trans rfl
      have HNX := Lib.hid (bNext HB.out 14 (by omega))
      clear HB hpc
      go_wp2_with fail
      ((with_reducible refine HNX.out.mono ?_); rintro ee w8 ⟨r, rfl, hr, hbd⟩)
      obtain ⟨N, rfl⟩ : ∃ k : Nat, r = (k : Int) := ⟨r.toNat, by omega⟩
      have HN14 := Lib.hid (show N ≤ 13 by omega)
      have V1 := Lib.hid (show (Start k T1 ∧ T1.ins.length ≤ k + 1 + 4 * 0) ∧ BD R W p m T1 fu (k : Int) ((b, .cells bc 60 (0, 0)) :: C0) w8 from ⟨⟨HS1.out, HTL1.out⟩, hbd⟩)
      clear hbd HNX HS1 HTL1 q0 hr
      go_wp2_with fail
      go_loopw [8] (fun i wr => ∃ j : Nat, j ≤ N ∧ i = .int .i64 (j : Int) ∧ ∃ T : TR, Hid ((Start k T ∧ T.ins.length ≤ k + 1 + 4 * j) ∧ BD R W p m T fu (k : Int) ((b, .cells bc 60 (0, 0)) :: C0) wr)) (fun i _ => N + 1 - (RowKit.intOf i).toNat)
      case atStart => exact ⟨0, Nat.zero_le _, rfl, T1, V1⟩
      case round =>
        obtain ⟨j, hj, rfl, T2, VV⟩ := hrel
        obtain ⟨wo2, rfl⟩ : ∃ wo : World, wo = wr := ⟨_, rfl⟩
        clear V1
        have hj14 : j ≤ 13 := by have := HN14.out; omega
        by_cases hlt2 : j < N
        · have hb2 : decide (j < N) = true := by simpa using hlt2
          have HST := Lib.hid (step_any VV.out.2 VV.out.1.1 (by have := HFF.out; omega) (by have := VV.out.1.2; have := HPB.out; omega))
          go_wp2_with fail
          ((with_reducible refine HST.out.mono ?_); rintro ee w9 ⟨rfl, T3, hg, hbd⟩)
          have VN := Lib.hid (show (Start k T3 ∧ T3.ins.length ≤ k + 1 + 4 * (j + 1)) ∧ BD R W p m T3 fu (k : Int) ((b, .cells bc 60 (0, 0)) :: C0) w9 from ⟨⟨hg.start VV.out.1.1 (by have := VV.out.1.2; have := HPB.out; omega), by have := hg.len; have := VV.out.1.2; omega⟩, hbd⟩)
          clear hbd hg HST VV
          go_wp2_with fail
          exact ⟨⟨j + 1, by omega, by go_num, T3, VN⟩, by simp [RowKit.intOf]; omega⟩
        · have hb2 : decide (j < N) = false := by simpa using hlt2
          obtain ⟨A1, ca, E1, ce, hpc, _⟩ := VV.out.2.cells
          have q0 := (blk_cell hpc 0).trans rfl
          have HNX := Lib.hid (bNext VV.out.2 6 (by omega))
          have HS := Lib.hid VV.out.1.1
          have HTL := Lib.hid (show T2.ins.length ≤ 59 by have := VV.out.1.2; have := HPB.out; omega)
          clear hpc VV
          go_wp2_with fail
          ((with_reducible refine HNX.out.mono ?_); rintro ee w9 ⟨r, rfl, hr, hbd⟩)
          have HB := Lib.hid hbd
          clear hbd HNX q0
          have hbb := HB.out.at_ (.head _)
          obtain ⟨e0, e1, e2, e3, e4, e5, e6, e7, e8, e9, e10, e11, e12, e13, hbe⟩ := cells14 HBS.out
          have HBE := Lib.hid hbe
          rw [hbe] at hbb
          have z0 : w9.cell? ⟨b, 0, none⟩ = some e0 := (blk_cell hbb 0).trans rfl
          have f0 := blk_free hbb 0
          have z1 : w9.cell? ⟨b, 1, none⟩ = some e1 := (blk_cell hbb 1).trans rfl
          have f1 := blk_free hbb 1
          have z2 : w9.cell? ⟨b, 2, none⟩ = some e2 := (blk_cell hbb 2).trans rfl
          have f2 := blk_free hbb 2
          have z3 : w9.cell? ⟨b, 3, none⟩ = some e3 := (blk_cell hbb 3).trans rfl
          have f3 := blk_free hbb 3
          have z4 : w9.cell? ⟨b, 4, none⟩ = some e4 := (blk_cell hbb 4).trans rfl
          have f4 := blk_free hbb 4
          have z5 : w9.cell? ⟨b, 5, none⟩ = some e5 := (blk_cell hbb 5).trans rfl
          have f5 := blk_free hbb 5
          have z6 : w9.cell? ⟨b, 6, none⟩ = some e6 := (blk_cell hbb 6).trans rfl
          have f6 := blk_free hbb 6
          have z7 : w9.cell? ⟨b, 7, none⟩ = some e7 := (blk_cell hbb 7).trans rfl
          have f7 := blk_free hbb 7
          have z8 : w9.cell? ⟨b, 8, none⟩ = some e8 := (blk_cell hbb 8).trans rfl
          have f8 := blk_free hbb 8
          have z9 : w9.cell? ⟨b, 9, none⟩ = some e9 := (blk_cell hbb 9).trans rfl
          have f9 := blk_free hbb 9
          have z10 : w9.cell? ⟨b, 10, none⟩ = some e10 := (blk_cell hbb 10).trans rfl
          have f10 := blk_free hbb 10
          have z11 : w9.cell? ⟨b, 11, none⟩ = some e11 := (blk_cell hbb 11).trans rfl
          have f11 := blk_free hbb 11
          have z12 : w9.cell? ⟨b, 12, none⟩ = some e12 := (blk_cell hbb 12).trans rfl
          have f12 := blk_free hbb 12
          have z13 : w9.cell? ⟨b, 13, none⟩ = some e13 := (blk_cell hbb 13).trans rfl
          have f13 := blk_free hbb 13
          clear hbb hbe
          by_cases hr0 : r = 0
          · subst hr0
            go_upto_region 21 with (fail)
            have HFU : Hid (0 ≤ fu ∧ fu ≤ 10) := Lib.hid ⟨by have := HFF.out; omega, by have := HFF.out; omega⟩
            rw [HBE.out] at HB
            replace HB := Lib.hid (HB.out.fill14 HCB.out HNB.out (.int .i64 21) (.int .i64 0) (.int .i64 0) (.int .i64 0) (.int .i64 0) (.slice none 0 0) (.int .i64 0) (.int .i64 0) (.string ⟨#[]⟩) (.slice none 0 0) (.int .i64 0) (.int .i64 0) (.int .i64 0) (.bool false))
            obtain ⟨wf, hwf⟩ : ∃ V : World, ((((((((((((((w9.setCell ⟨b, 0, none⟩ (.int .i64 21)).setCell ⟨b, 1, none⟩ (.int .i64 0)).setCell ⟨b, 2, none⟩ (.int .i64 0)).setCell ⟨b, 3, none⟩ (.int .i64 0)).setCell ⟨b, 4, none⟩ (.int .i64 0)).setCell ⟨b, 5, none⟩ (.slice none 0 0)).setCell ⟨b, 6, none⟩ (.int .i64 0)).setCell ⟨b, 7, none⟩ (.int .i64 0)).setCell ⟨b, 8, none⟩ (.string ⟨#[]⟩)).setCell ⟨b, 9, none⟩ (.slice none 0 0)).setCell ⟨b, 10, none⟩ (.int .i64 0)).setCell ⟨b, 11, none⟩ (.int .i64 0)).setCell ⟨b, 12, none⟩ (.int .i64 0)).setCell ⟨b, 13, none⟩ (.bool false)) = V := ⟨_, rfl⟩
            rw [hwf] at HB
            rw [hwf]
            clear hwf HBE z0 f0 z1 f1 z2 f2 z3 f3 z4 f4 z5 f5 z6 f6 z7 f7 z8 f8 z9 f9 z10 f10 z11 f11 z12 f12 z13 f13
            have HLV := Lib.hid (bLeave HB.out HS.out HFU.out)
            obtain ⟨NX, hNX⟩ : ∃ NX, T2.exits.length = NX := ⟨_, rfl⟩
            rw [hNX] at HLV
            have HNX := Lib.hid hNX
            clear HB hNX
            go_wp2_with fail
            ((with_reducible refine HLV.out.mono ?_); rintro ee wl ⟨rfl, ex, hex, hbd⟩)
            have HEX := Lib.hid hex
            have HBL := Lib.hid hbd
            have hbb := hbd.at_ (.head _)
            have q12 := (blk_cell hbb 12).trans rfl
            have f12 := blk_free hbb 12
            clear hex hbd hbb HLV
            go_upto_region 22 with (fail)
            have HBP := Lib.hid (HBL.out.put ⟨by decide, by decide, by decide⟩ HCB.out HNB.out 12 (.int .i64 (NX : Int)) (w' := wl))
            obtain ⟨ws, hws⟩ : ∃ ws : World, wl.setCell ⟨b, 12, none⟩ (.int .i64 (NX : Int)) = ws := ⟨_, rfl⟩
            rw [hws] at HBP
            rw [hws]
            clear hws q12 f12 HBL
            have hbs := HBP.out.at_ (.head _)
            have z0 : ws.cell? ⟨b, 0, none⟩ = some (.int .i64 21) := (blk_cell hbs 0).trans rfl
            have z1 : ws.cell? ⟨b, 1, none⟩ = some (.int .i64 0) := (blk_cell hbs 1).trans rfl
            have z2 : ws.cell? ⟨b, 2, none⟩ = some (.int .i64 0) := (blk_cell hbs 2).trans rfl
            have z3 : ws.cell? ⟨b, 3, none⟩ = some (.int .i64 0) := (blk_cell hbs 3).trans rfl
            have z4 : ws.cell? ⟨b, 4, none⟩ = some (.int .i64 0) := (blk_cell hbs 4).trans rfl
            have z5 : ws.cell? ⟨b, 5, none⟩ = some (.slice none 0 0) := (blk_cell hbs 5).trans rfl
            have z6 : ws.cell? ⟨b, 6, none⟩ = some (.int .i64 0) := (blk_cell hbs 6).trans rfl
            have z7 : ws.cell? ⟨b, 7, none⟩ = some (.int .i64 0) := (blk_cell hbs 7).trans rfl
            have z8 : ws.cell? ⟨b, 8, none⟩ = some (.string ⟨#[]⟩) := (blk_cell hbs 8).trans rfl
            have z9 : ws.cell? ⟨b, 9, none⟩ = some (.slice none 0 0) := (blk_cell hbs 9).trans rfl
            have z10 : ws.cell? ⟨b, 10, none⟩ = some (.int .i64 0) := (blk_cell hbs 10).trans rfl
            have z11 : ws.cell? ⟨b, 11, none⟩ = some (.int .i64 0) := (blk_cell hbs 11).trans rfl
            have z12 : ws.cell? ⟨b, 12, none⟩ = some (.int .i64 (NX : Int)) := (blk_cell hbs 12).trans rfl
            have z13 : ws.cell? ⟨b, 13, none⟩ = some (.bool false) := (blk_cell hbs 13).trans rfl
            have HAD := Lib.hid (bAdd HBP.out ⟨⟨21, 0, 0, 0, 0, [], 0, 0, [], [], 0, 0, ((NX : Nat) : Int), false⟩, none, 0, none, 0⟩ (fits_none rfl rfl) (by have := HS.out.few; show T2.ins.length ≤ 1000; omega))
            have HGR := Lib.hid (RightT.of (T := T2.exit ex) (x := ⟨21, 0, 0, 0, 0, [], 0, 0, [], [], 0, 0, ((NX : Nat) : Int), false⟩) (HS.out.good.leave HEX.out (.fin _ (by omega)) (fun hh => absurd hh (by have := HS.out.par; omega)) (by rw [HNX.out]) (Nat.lt_succ_of_le HS.out.good.few)) HS.out.body HS.out.p1 HS.out.par (by have := HTL.out; show T2.ins.length ≤ 59; omega) (.inr rfl))
            have HILN : Hid ((T2.exit ex).ins.length = T2.ins.length) := Lib.hid rfl
            clear hbs HBP
            go_wp2_with fail
            ((refine (show Calls Tryd.prog _ #[.pointer (some ⟨p, 0, none⟩), .agg (RI.cells ⟨⟨21, 0, 0, 0, 0, [], 0, 0, [], [], 0, 0, ((NX : Nat) : Int), false⟩, none, 0, none, 0⟩).toArray] ws _ from HAD.out).mono ?_); rintro ee wa ⟨rfl, hbd⟩)
            have HB := Lib.hid hbd
            clear hbd HAD z0 z1 z2 z3 z4 z5 z6 z7 z8 z9 z10 z11 z12 z13
            have HRR := Lib.hid (show wa.heap[R]? = some (.cells #[.int .i64 0, .int .i64 0, .slice none 0 0, .slice none 0 0] 31 (0, 0)) from HB.out.at_ (x := (R, Obj.cells #[.int .i64 0, .int .i64 0, .slice none 0 0, .slice none 0 0] 31 (0, 0))) (.tail _ (by rw [← HC0.out]; exact .head _)))
            obtain ⟨A1, ca, E1, ce, hpc, htr⟩ := HB.out.trace (by have := HGR.out.few; omega) (by have := HGR.out.few; have := HGR.out.good.few; omega)
            have q1 := (blk_cell hpc 1).trans rfl
            have q2 := (blk_cell hpc 2).trans rfl
            have q3 := (blk_cell hpc 3).trans rfl
            have q4 := (blk_cell hpc 4).trans rfl
            have r0 := (blk_cell HRR.out 0).trans rfl
            have r1 := (blk_cell HRR.out 1).trans rfl
            have r2 := (blk_cell HRR.out 2).trans rfl
            have r3 := (blk_cell HRR.out 3).trans rfl
            have fr0 := blk_free HRR.out 0
            have fr1 := blk_free HRR.out 1
            have fr2 := blk_free HRR.out 2
            have fr3 := blk_free HRR.out 3
            have HTR := Lib.hid htr
            clear hpc htr
            go_wp2_with fail
            have hfin := blk_set (blk_set (blk_set (blk_set HRR.out 0 (.int .i64 ((T2.exit ex).push ⟨21, 0, 0, 0, 0, [], 0, 0, [], [], 0, 0, ((NX : Nat) : Int), false⟩).pf)) 1 (.int .i64 ((T2.exit ex).push ⟨21, 0, 0, 0, 0, [], 0, 0, [], [], 0, 0, ((NX : Nat) : Int), false⟩).pl)) 2 (.slice A1 ((T2.exit ex).push ⟨21, 0, 0, 0, 0, [], 0, 0, [], [], 0, 0, ((NX : Nat) : Int), false⟩).ins.length ca)) 3 (.slice E1 ((T2.exit ex).push ⟨21, 0, 0, 0, 0, [], 0, 0, [], [], 0, 0, ((NX : Nat) : Int), false⟩).exits.length ce)
            have hkf : Keep (fun k => k = R) wa _ := keep_set (keep_set (keep_set (keep_set (Keep.refl (fun k => k = R) wa) 0 (.int .i64 ((T2.exit ex).push ⟨21, 0, 0, 0, 0, [], 0, 0, [], [], 0, 0, ((NX : Nat) : Int), false⟩).pf)) 1 (.int .i64 ((T2.exit ex).push ⟨21, 0, 0, 0, 0, [], 0, 0, [], [], 0, 0, ((NX : Nat) : Int), false⟩).pl)) 2 (.slice A1 ((T2.exit ex).push ⟨21, 0, 0, 0, 0, [], 0, 0, [], [], 0, 0, ((NX : Nat) : Int), false⟩).ins.length ca)) 3 (.slice E1 ((T2.exit ex).push ⟨21, 0, 0, 0, 0, [], 0, 0, [], [], 0, 0, ((NX : Nat) : Int), false⟩).exits.length ce)
            simp only [List.setIfInBounds_toArray, List.set_cons_zero, List.set_cons_succ] at hfin
            exact bodyPost_ret (results_cell_row rfl _ _ R _ _ _ _ rfl hfin Tryd.underlying31 rfl (by kernel_rfl)) rfl ⟨_, _, _, rfl, HGR.out, HTR.out _ R _ HRR.out hkf, by
              rw [HR.out]
              exact Keep.trans HB.out.sinceW (Keep.mono hkf (fun i e => by omega))⟩
          · have hr1 : (r == 0) = false := by simpa using hr0
            go_upto_region 25 with (fail)
            rw [HBE.out] at HB
            replace HB := Lib.hid (HB.out.fill14 HCB.out HNB.out (.int .i64 20) (.int .i64 0) (.int .i64 0) (.int .i64 0) (.int .i64 0) (.slice none 0 0) (.int .i64 0) (.int .i64 0) (.string ⟨#[]⟩) (.slice none 0 0) (.int .i64 0) (.int .i64 0) (.int .i64 (-1)) (.bool false))
            obtain ⟨wf, hwf⟩ : ∃ V : World, ((((((((((((((w9.setCell ⟨b, 0, none⟩ (.int .i64 20)).setCell ⟨b, 1, none⟩ (.int .i64 0)).setCell ⟨b, 2, none⟩ (.int .i64 0)).setCell ⟨b, 3, none⟩ (.int .i64 0)).setCell ⟨b, 4, none⟩ (.int .i64 0)).setCell ⟨b, 5, none⟩ (.slice none 0 0)).setCell ⟨b, 6, none⟩ (.int .i64 0)).setCell ⟨b, 7, none⟩ (.int .i64 0)).setCell ⟨b, 8, none⟩ (.string ⟨#[]⟩)).setCell ⟨b, 9, none⟩ (.slice none 0 0)).setCell ⟨b, 10, none⟩ (.int .i64 0)).setCell ⟨b, 11, none⟩ (.int .i64 0)).setCell ⟨b, 12, none⟩ (.int .i64 (-1))).setCell ⟨b, 13, none⟩ (.bool false)) = V := ⟨_, rfl⟩
            rw [hwf] at HB
            rw [hwf]
            clear hwf HBE z0 f0 z1 f1 z2 f2 z3 f3 z4 f4 z5 f5 z6 f6 z7 f7 z8 f8 z9 f9 z10 f10 z11 f11 z12 f12 z13 f13
            have HLW := Lib.hid HB.out.low'
            have HBF : Hid (BD R W p m T2 fu (k : Int) ((b, .cells (X20 none 0 0) 60 (0, 0)) :: C0) wf) := Lib.hid HB.out
            have V2 : Hid (LQ R m b wf T2 0 none 0 wf) := Lib.hid ⟨HB.out.nu, Keep.refl _ _, HBF.out.at_ (.head _), [], rfl, by simp, World.ownsRow_nil _ _ _ _⟩
            clear HB
            go_wp2_with fail
            go_loopw [9] (fun i wr => ∃ j : Nat, j ≤ k ∧ i = .int .i64 (j : Int) ∧ ∃ (AA : Option Addr) (cc : Nat), Hid (LQ R m b wf T2 j AA cc wr)) (fun i _ => k + 1 - (RowKit.intOf i).toNat)
            case atStart => exact ⟨0, Nat.zero_le _, rfl, none, 0, V2⟩
            case round =>
              obtain ⟨j, hjk, rfl, AA, cc, HQ⟩ := hrel
              obtain ⟨wo3, rfl⟩ : ∃ wo : World, wo = wr := ⟨_, rfl⟩
              clear V2
              have hk4 : k ≤ 4 := HPB.out.2
              have HBO := Lib.hid (HBF.out.num2 HQ.out.keep HQ.out.nu HQ.out.blk ⟨by decide, by decide, by decide⟩ HCB.out HNB.out)
              obtain ⟨A1, ca, E1, ce, hpc, _⟩ := HBO.out.cells
              have q0 := (blk_cell hpc 0).trans rfl
              have q6 := (blk_cell hpc 6).trans rfl
              clear hpc
              by_cases hlt3 : j < k
              · have hb3 : decide (j < k) = true := by simpa using hlt3
                have HNX := Lib.hid (next_any HQ.out.nu 2 (by omega))
                go_wp2_with fail
                ((with_reducible refine HNX.out.mono ?_); rintro ee wx ⟨r5, rfl, hr5, hnu, hkx⟩)
                have HQ1 := Lib.hid (HQ.out.num hkx hnu)
                clear HNX HQ HBO hnu hkx q0 q6
                by_cases hr50 : r5 = 0
                · subst hr50
                  obtain ⟨vs, hvl, hvs, h0⟩ := HQ1.out.row
                  have HZ := Lib.hid (And.intro hvl (And.intro hvs h0))
                  have HSZ := Lib.hid HQ1.out.keep.size
                  have x5 : wx.cell? ⟨b, 5, none⟩ = some (.slice AA j cc) := (blk_cell HQ1.out.blk 5).trans rfl
                  clear hvl hvs h0
                  go_wp2_with (at_builtin; refine wpList_append_src 22 3 _ 8 wf.heap.size Tryd.ints1 _ _ rfl rfl (.slice AA j cc) j (ints vs) rfl (by exact HZ.out.2.2.alloc _) _ 1 1 (ints [(j : Int)]) rfl (by intro h; cases h) (by exact cells_new _ _ _) (ints_one _) (by omega) (by decide) (by have := HSZ.out; simp; omega) ?_)
                  intro v' w3 hown hgr hnil hblk
                  obtain ⟨A', c', rfl⟩ := own_slice hown
                  obtain ⟨hb3, hL⟩ := HQ1.out.push HZ.out.1 HZ.out.2.1 HZ.out.2.2 (HS.out.param hlt3) HNB.out HLW.out hown hgr
                  have y5 : w3.cell? ⟨b, 5, none⟩ = some (.slice AA j cc) := (blk_cell hb3 5).trans rfl
                  have g5 := blk_free hb3 5
                  have HL2 := Lib.hid hL
                  clear hown hgr hnil hblk hb3 hL
                  go_wp2_with fail
                  exact ⟨⟨j + 1, by omega, by go_num, A', c', HL2⟩, by simp [RowKit.intOf]; omega⟩
                · have hr51 : (r5 == 0) = false := by simpa using hr50
                  have HBX := Lib.hid (HBF.out.num2 HQ1.out.keep HQ1.out.nu HQ1.out.blk ⟨by decide, by decide, by decide⟩ HCB.out HNB.out)
                  have HVL := Lib.hid (value_any (HBX.out.quiet (keep_draw _ wx)) HS.out.val0 (by have := HS.out.few; omega))
                  clear HBX
                  go_upto_region 30 with (fail)
                  refine wp_region_drewU (S := (fun w' => Hid (w'.heap[b]? = some (.cells (X20 AA j cc) 60 (0, 0))))) (D := [6, 7]) (by kernel_rfl) (by exact Lib.hid HQ1.out.blk) (fun hH => ?_)
                  refine wpAnyU_take (i := 0) (v := ?_) rfl (by kernel_rfl) (by kernel_rfl) (by kernel_rfl) (by kernel_rfl) (fun _ _ _ h => h) (Or.inl ⟨by rfl, ?_⟩) hH ?_
                  rotate_left
                  · (intro w'' hSw; (try dsimp only at hSw); go_simp; try with_reducible rfl)
                  change wpAnyU _ _ _ _ _ _ _ _ (Act.put _ (some 118) _) _
                  try simp only [Act.put, List.setIfInBounds_toArray, List.set_cons_zero, List.set_cons_succ]
                  refine wpAnyU_take (i := 1) (v := ?_) rfl (by kernel_rfl) (by kernel_rfl) (by kernel_rfl) (by kernel_rfl) (fun _ _ _ h => h) (Or.inl ⟨by rfl, ?_⟩) hH ?_
                  rotate_left
                  · (intro w'' hSw; have q : w''.cell? ⟨b, 5, none⟩ = some (.slice AA j cc) := (blk_cell hSw.out 5).trans rfl; go_simp; try with_reducible rfl)
                  change wpAnyU _ _ _ _ _ _ _ _ (Act.put _ (some 119) _) _
                  try simp only [Act.put, List.setIfInBounds_toArray, List.set_cons_zero, List.set_cons_succ]
                  refine wpAnyU_take (i := 2) (v := ?_) rfl (by kernel_rfl) (by kernel_rfl) (by kernel_rfl) (by kernel_rfl) (fun _ _ _ h => h) (Or.inl ⟨by rfl, ?_⟩) hH ?_
                  rotate_left
                  · (intro w'' hSw; (try dsimp only at hSw); go_simp; try with_reducible rfl)
                  change wpAnyU _ _ _ _ _ _ _ _ (Act.put _ (some 120) _) _
                  try simp only [Act.put, List.setIfInBounds_toArray, List.set_cons_zero, List.set_cons_succ]
                  refine wpAnyU_ready (rs := [3]) (by kernel_rfl) (by simp) ?_
                  refine AllReadyU.cons rfl (fun Kn hKn => ?_) AllReadyU.nil
                  go_simp
                  go_at_call 77
                  (with_reducible refine HVL.out.mono ?_)
                  rintro ee wv ⟨v, rfl, hv, hn2, hk2⟩
                  have HQ2 := Lib.hid (HQ1.out.num (Keep.trans (keep_draw _ wx) hk2) hn2)
                  obtain ⟨vs, hvl, hvs, h0⟩ := HQ2.out.row
                  have HZ := Lib.hid (And.intro hvl (And.intro hvs h0))
                  have HVV := Lib.hid hv.vb
                  have HSZ := Lib.hid HQ2.out.keep.size
                  clear hvl hvs h0 hv hn2 hk2
                  refine hKn.out _ _ ?_ (fun hH => ?_)
                  · (exact Lib.hid HQ2.out.blk)
                  clear hKn Kn
                  try simp only [Act.put, List.setIfInBounds_toArray, List.set_cons_zero, List.set_cons_succ]
                  refine wpAnyU_ready (rs := [4]) (by kernel_rfl) (by simp) ?_
                  refine AllReadyU.cons rfl (fun Kn hKn => ?_) AllReadyU.nil
                  go_simp
                  refine hKn.out _ _ ?_ (fun hH => ?_)
                  · (exact Lib.hid (alloc_old' hH.out))
                  clear hKn Kn
                  try simp only [Act.put, List.setIfInBounds_toArray, List.set_cons_zero, List.set_cons_succ]
                  refine wpAnyU_ready (rs := [5]) (by kernel_rfl) (by simp) ?_
                  refine AllReadyU.cons rfl (fun Kn hKn => ?_) AllReadyU.nil
                  refine oper_append_src 22 3 _ 8 wf.heap.size Tryd.ints1 _ _ rfl (.slice AA j cc) j (ints vs) rfl (by exact HZ.out.2.2.alloc _) _ 1 1 (ints [(v : Int)]) rfl (by intro h; cases h) (by exact cells_new _ _ _) (ints_one _) (by omega) (by decide) (by have := HSZ.out; simp; omega) ?_
                  intro A' c' w3 hown hgr hblk
                  have HA3 := Lib.hid (HQ2.out.push HZ.out.1 HZ.out.2.1 HZ.out.2.2 HVV.out HNB.out HLW.out hown hgr)
                  clear hown hgr hblk
                  refine hKn.out _ _ ?_ (fun hH => ?_)
                  · (exact Lib.hid HA3.out.1)
                  clear hKn Kn
                  try simp only [Act.put, List.setIfInBounds_toArray, List.set_cons_zero, List.set_cons_succ]
                  refine wpAnyU_pure (i := 6) (v := ?_) rfl (by kernel_rfl) (by kernel_rfl) (by kernel_rfl) (by rfl) (fun _ _ _ h => h) (Or.inl ⟨by rfl, ?_⟩) ?_
                  rotate_left
                  · (intro w'' _; go_simp; try with_reducible rfl)
                  change wpAnyU _ _ _ _ _ _ _ _ (Act.put _ (some 124) _) _
                  try simp only [Act.put, List.setIfInBounds_toArray, List.set_cons_zero, List.set_cons_succ]
                  refine wpAnyU_ready (rs := [7]) (by kernel_rfl) (by simp) ?_
                  refine AllReadyU.last rfl (by rfl) (fun Kn hKn => ?_) AllReadyU.nil
                  go_simp
                  have q0' : w3.cell? ⟨b, 5, none⟩ = some (.slice AA j cc) := (blk_cell HA3.out.1 5).trans rfl
                  have f0' := blk_free HA3.out.1 5
                  go_simp
                  refine hKn.out _ _ ?_
                  clear hKn Kn
                  try simp only [Act.put, List.setIfInBounds_toArray, List.set_cons_zero, List.set_cons_succ]
                  refine wpAnyU_done (by kernel_rfl) ?_ _
                  have HL2 := Lib.hid HA3.out.2
                  clear HA3
                  go_wp2_with fail
                  exact ⟨⟨j + 1, by omega, by go_num, A', c', HL2⟩, by simp [RowKit.intOf]; omega⟩
              · have hb3 : decide (j < k) = false := by simpa using hlt3
                obtain rfl : j = k := by omega
                obtain ⟨vs, hvl, hvs, h0⟩ := HQ.out.row
                have hbs := HQ.out.blk
                have z0 : wo3.cell? ⟨b, 0, none⟩ = some (.int .i64 20) := (blk_cell hbs 0).trans rfl
                have z1 : wo3.cell? ⟨b, 1, none⟩ = some (.int .i64 0) := (blk_cell hbs 1).trans rfl
                have z2 : wo3.cell? ⟨b, 2, none⟩ = some (.int .i64 0) := (blk_cell hbs 2).trans rfl
                have z3 : wo3.cell? ⟨b, 3, none⟩ = some (.int .i64 0) := (blk_cell hbs 3).trans rfl
                have z4 : wo3.cell? ⟨b, 4, none⟩ = some (.int .i64 0) := (blk_cell hbs 4).trans rfl
                have z5 : wo3.cell? ⟨b, 5, none⟩ = some (.slice AA j cc) := (blk_cell hbs 5).trans rfl
                have z6 : wo3.cell? ⟨b, 6, none⟩ = some (.int .i64 0) := (blk_cell hbs 6).trans rfl
                have z7 : wo3.cell? ⟨b, 7, none⟩ = some (.int .i64 0) := (blk_cell hbs 7).trans rfl
                have z8 : wo3.cell? ⟨b, 8, none⟩ = some (.string ⟨#[]⟩) := (blk_cell hbs 8).trans rfl
                have z9 : wo3.cell? ⟨b, 9, none⟩ = some (.slice none 0 0) := (blk_cell hbs 9).trans rfl
                have z10 : wo3.cell? ⟨b, 10, none⟩ = some (.int .i64 0) := (blk_cell hbs 10).trans rfl
                have z11 : wo3.cell? ⟨b, 11, none⟩ = some (.int .i64 0) := (blk_cell hbs 11).trans rfl
                have z12 : wo3.cell? ⟨b, 12, none⟩ = some (.int .i64 (-1)) := (blk_cell hbs 12).trans rfl
                have z13 : wo3.cell? ⟨b, 13, none⟩ = some (.bool false) := (blk_cell hbs 13).trans rfl
                have hfit : RI.Fits wo3 ⟨⟨20, 0, 0, 0, 0, vs, 0, 0, [], [], 0, 0, -1, false⟩, AA, cc, none, 0⟩ := by
                  refine ⟨?_, Lies.nil _ _ _⟩
                  have h9 := Lies.own h0 (by decide) (by omega)
                  rw [Nat.mul_one] at h9
                  show Lies wo3 AA vs.length (ints vs) _
                  rw [hvl]
                  exact h9
                have hcl : (RI.cells ⟨⟨20, 0, 0, 0, 0, vs, 0, 0, [], [], 0, 0, -1, false⟩, AA, cc, none, 0⟩).toArray = X20 AA j cc := by
                  unfold RI.cells X20
                  dsimp only
                  rw [hvl]
                  rfl
                have had := bAdd HBO.out ⟨⟨20, 0, 0, 0, 0, vs, 0, 0, [], [], 0, 0, -1, false⟩, AA, cc, none, 0⟩ hfit (by have := HS.out.few; omega)
                rw [hcl] at had
                have HAD := Lib.hid had
                have HGR := Lib.hid (RightT.of (T := T2) (x := ⟨20, 0, 0, 0, 0, vs, 0, 0, [], [], 0, 0, -1, false⟩) (HS.out.good.push (.loop vs hvl hvs) (fun hh => absurd hh (by have := HS.out.par; omega)) (by simp)) HS.out.body HS.out.p1 HS.out.par (by have := HTL.out; omega) (.inl rfl))
                clear had hcl hfit hbs h0 hvs hvl q0 HBO HQ
                go_wp2_with fail
                ((refine (show Calls Tryd.prog _ #[.pointer (some ⟨p, 0, none⟩), .agg (X20 AA j cc)] wo3 _ from HAD.out).mono ?_); rintro ee wa ⟨rfl, hbd⟩)
                have HB := Lib.hid hbd
                clear hbd HAD q6 z0 z1 z2 z3 z4 z5 z6 z7 z8 z9 z10 z11 z12 z13
                have HRR := Lib.hid (show wa.heap[R]? = some (.cells #[.int .i64 0, .int .i64 0, .slice none 0 0, .slice none 0 0] 31 (0, 0)) from HB.out.at_ (x := (R, Obj.cells #[.int .i64 0, .int .i64 0, .slice none 0 0, .slice none 0 0] 31 (0, 0))) (.tail _ (by rw [← HC0.out]; exact .head _)))
                obtain ⟨A1, ca, E1, ce, hpc, htr⟩ := HB.out.trace (by have := HGR.out.few; omega) (by have := HGR.out.few; have := HGR.out.good.few; omega)
                have q1 := (blk_cell hpc 1).trans rfl
                have q2 := (blk_cell hpc 2).trans rfl
                have q3 := (blk_cell hpc 3).trans rfl
                have q4 := (blk_cell hpc 4).trans rfl
                have r0 := (blk_cell HRR.out 0).trans rfl
                have r1 := (blk_cell HRR.out 1).trans rfl
                have r2 := (blk_cell HRR.out 2).trans rfl
                have r3 := (blk_cell HRR.out 3).trans rfl
                have fr0 := blk_free HRR.out 0
                have fr1 := blk_free HRR.out 1
                have fr2 := blk_free HRR.out 2
                have fr3 := blk_free HRR.out 3
                have HTR := Lib.hid htr
                clear hpc htr
                go_wp2_with fail
                have hfin := blk_set (blk_set (blk_set (blk_set HRR.out 0 (.int .i64 (T2.push ⟨20, 0, 0, 0, 0, vs, 0, 0, [], [], 0, 0, -1, false⟩).pf)) 1 (.int .i64 (T2.push ⟨20, 0, 0, 0, 0, vs, 0, 0, [], [], 0, 0, -1, false⟩).pl)) 2 (.slice A1 (T2.push ⟨20, 0, 0, 0, 0, vs, 0, 0, [], [], 0, 0, -1, false⟩).ins.length ca)) 3 (.slice E1 (T2.push ⟨20, 0, 0, 0, 0, vs, 0, 0, [], [], 0, 0, -1, false⟩).exits.length ce)
                have hkf : Keep (fun k => k = R) wa _ := keep_set (keep_set (keep_set (keep_set (Keep.refl (fun k => k = R) wa) 0 (.int .i64 (T2.push ⟨20, 0, 0, 0, 0, vs, 0, 0, [], [], 0, 0, -1, false⟩).pf)) 1 (.int .i64 (T2.push ⟨20, 0, 0, 0, 0, vs, 0, 0, [], [], 0, 0, -1, false⟩).pl)) 2 (.slice A1 (T2.push ⟨20, 0, 0, 0, 0, vs, 0, 0, [], [], 0, 0, -1, false⟩).ins.length ca)) 3 (.slice E1 (T2.push ⟨20, 0, 0, 0, 0, vs, 0, 0, [], [], 0, 0, -1, false⟩).exits.length ce)
                simp only [List.setIfInBounds_toArray, List.set_cons_zero, List.set_cons_succ] at hfin
                exact bodyPost_ret (results_cell_row rfl _ _ R _ _ _ _ rfl hfin Tryd.underlying31 rfl (by kernel_rfl)) rfl ⟨_, _, _, rfl, HGR.out, HTR.out _ R _ HRR.out hkf, by
                  rw [HR.out]
                  exact Keep.trans HB.out.sinceW (Keep.mono hkf (fun i e => by omega))⟩
end Go.Proofs.YtnbpgipbfejllaaDoor
