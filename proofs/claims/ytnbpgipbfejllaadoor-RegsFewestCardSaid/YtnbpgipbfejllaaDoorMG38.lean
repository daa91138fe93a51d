/- regs: Allocate (the program's). -/
import Derived.Test.YtnbpgipbfejllaaDoorMG33
import Derived.Deep.CutBlock
namespace Go.Proofs.YtnbpgipbfejllaaDoor
open Go.RowKit Go.Lib
set_option linter.unusedVariables false
set_option linter.unusedSimpArgs false

theorem ints_setK (l : List Int) (k : Nat) (v : Int) : (ints l).set k (.int .i64 v) = ints (l.set k v) := by unfold ints; rw [List.map_set]
theorem ints_rep (n : Nat) (v : Int) : ints (List.replicate n v) = List.replicate n (.int .i64 v) := by simp [ints]
def fillTo (N k : Nat) : List Int := List.replicate k (-1) ++ List.replicate (N - k) 0
theorem fillTo_set (N k : Nat) (h : k < N) : (fillTo N k).set k (-1) = fillTo N (k + 1) := by
  unfold fillTo
  obtain ⟨m, hm⟩ : ∃ m, N - k = m + 1 := ⟨N - k - 1, by omega⟩
  rw [hm, show N - (k + 1) = m by omega, List.replicate_succ, List.set_append_right _ _ (by simp)]
  simp [List.replicate_succ', List.append_assoc]
theorem fillTo_end (N : Nat) : fillTo N N = List.replicate N (-1) := by simp [fillTo]
theorem fillTo_len (N k : Nat) (h : k ≤ N) : (fillTo N k).length = N := by simp [fillTo]; omega
theorem ints_cell {w : World} {b : Nat} {l : List Int} {t : TypeId} {fr : Nat × Nat} (h : w.heap[b]? = some (.cells (ints l).toArray t fr)) {j : Nat} (hj : j < l.length) (d : Int) : w.cell? ⟨b, j, none⟩ = some (.int .i64 (l.getD j d)) := by
  rw [cell_at h, List.getElem?_toArray]
  unfold ints
  rw [List.getElem?_map, List.getD_eq_getElem?_getD, List.getElem?_eq_getElem hj]
  rfl
theorem ints_put {W : World} {b : Nat} {l : List Int} {t : TypeId} (h : W.heap[b]? = some (.cells (ints l).toArray t (0, 0))) (k : Nat) (v : Int) : (W.setCell ⟨b, k, none⟩ (.int .i64 v)).heap[b]? = some (.cells (ints (l.set k v)).toArray t (0, 0)) := by
  have h5 := blk_set h k (.int .i64 v)
  rw [List.setIfInBounds_toArray, ints_setK] at h5
  exact h5
section
variable {w w' : World} {A : Option Addr} {ca : Nat} {E : Option Addr} {ce : Nat} {R : List RI} {X : List RX} {T : TR}
theorem results_row_tmp {P : Program} {fn : Func} {p u : Tmp} {ty : TypeId} (h : fn.results = #[.cell p ty, .tmp u]) (tmps : Array Value) (w : World) (g : Nat) (t : TypeId) (cs : Array Value) (fr : Nat × Nat) (d : TypeDesc)
    (hp : tmps.getD p undef = .pointer (some ⟨g, 0, none⟩)) (hg : w.heap[g]? = some (.cells cs t fr))
    (hu : P.underlying ty = some d) (hd : (match d with | .struct _ | .array _ _ => true | _ => false) = true) (hi : (P.info? ty).map (·.size) = some cs.size) :
    (results fn tmps).run P w = .ok (.tuple #[.agg cs, tmps.getD u undef]) w := by
  have hp' : tmps[p]?.getD undef = .pointer (some ⟨g, 0, none⟩) := by simpa using hp
  simp [results, h, hp', asAddr, run_loadVar_row w g t ty cs fr d hg hu hd hi]
def TR.on (T : TR) (k : Nat) : Bool := (T.at_ k).once
/-- The blocks of an allocation under way. -/
structure AL (w5 : World) (gL bR N : Nat) (n : Int) (s : List Int × Int) (W : World) : Prop where
  keep : Keep (fun b => b = gL ∨ b = bR ∨ w5.heap.size ≤ b) w5 W
  loc : W.heap[gL]? = some (.cells (ints s.1).toArray 3 (0, 0))
  reg : W.heap[bR]? = some (.cells #[.int .i64 n, .int .i64 s.2, .slice (some ⟨gL, 0, none⟩) N N] 36 (0, 0))
theorem AL.quiet {w5 W W' : World} {gL bR N : Nat} {n : Int} {s : List Int × Int} (h : AL w5 gL bR N n s W) (hk : Keep (fun _ => False) W W') : AL w5 gL bR N n s W' :=
  ⟨Keep.trans h.keep (Keep.mono hk (fun _ e => e.elim)), (hk.block gL (blk_lt' h.loc) id).trans h.loc, (hk.block bR (blk_lt' h.reg) id).trans h.reg⟩
set_option maxRecDepth 100000 in
set_option maxHeartbeats 16000000 in
theorem alloc_any {P : Nat} (h : TA w A ca E ce R X T) (hr : RightT P T) (hn : NB w) (ht : TBW w) (n : Int) (hn1 : 1 ≤ n) (hn16 : n ≤ 16) : Calls Tryd.prog 12 #[trV A ca E ce T, .int .i64 n] w fun e w' => ∃ g, e = .returned (.tuple #[.agg #[.int .i64 n, .int .i64 (allocP T.spans T.on n T.ins.length).2, .slice (some ⟨g, 0, none⟩) T.ins.length T.ins.length], .int .i64 0]) ∧ w'.heap[g]? = some (.cells (ints (allocP T.spans T.on n T.ins.length).1).toArray 3 (0, 0)) ∧ w.heap.size ≤ g ∧ Since w.heap.size w w' := by
  have HR := Lib.hid hr
  have HNB := Lib.hid hn
  have HTB := Lib.hid ht
  have HK := Lib.hid (((Keep.refl (fun _ => False) w).alloc' (.cells #[.int .i64 T.pf, .int .i64 T.pl, .slice A T.ins.length ca, .slice E T.exits.length ce] 31)).alloc' (.cells #[.int .i64 0, .int .i64 0, .slice none 0 0] 36))
  have HT := Lib.hid (h.quiet HK.out)
  have HB := Lib.hid (@blk_two w (.cells #[.int .i64 T.pf, .int .i64 T.pl, .slice A T.ins.length ca, .slice E T.exits.length ce] 31) (.cells #[.int .i64 0, .int .i64 0, .slice none 0 0] 36))
  have HGR := Lib.hid (fun W (hW : TA W A ca E ce R X T) => gright_any hW hr)
  have HGS := Lib.hid (fun W (hW : TA W A ca E ce R X T) (hn : NB W) => spans_any hW hr hn)
  have hfew := hr.few
  obtain ⟨N, hN⟩ : ∃ N, T.ins.length = N := ⟨_, rfl⟩
  obtain ⟨M, hM⟩ : ∃ M, T.exits.length = M := ⟨_, rfl⟩
  have HN := Lib.hid hN
  have HMM := Lib.hid hM
  unfold trV at HGR HGS ⊢
  rw [hN] at hfew
  rw [hN, hM] at HK HB HT HGR HGS
  rw [hN, hM]
  have hmk : ∀ W : World, (Instr.makeSlice 22 (.int .i64 (N : Int)) (.int .i64 (N : Int))).run Tryd.prog W = .ok (.slice (some ⟨W.heap.size, 0, none⟩) N N) (W.alloc (.cells (madeCells #[.int .i64 0] N) 3)) := fun W => run_make_row' 22 3 (.int .i64 0) 8 Tryd.ints1.ht Tryd.ints1.info rfl .i64 .i64 N (by omega) (by omega) W
  clear h hr hn ht hN hM
  go_enter Tryd.func12, Tryd.ntmps12
  go_upto_region 1 with (fail)
  obtain ⟨w1, hw1⟩ : ∃ w1 : World, (w.alloc (.cells #[.int .i64 T.pf, .int .i64 T.pl, .slice A N ca, .slice E M ce] 31)).alloc (.cells #[.int .i64 0, .int .i64 0, .slice none 0 0] 36) = w1 := ⟨_, rfl⟩
  have HSZ := Lib.hid (show w1.heap.size = w.heap.size + 2 by rw [← hw1]; simp)
  obtain ⟨q, hq⟩ : ∃ q, w.heap.size = q := ⟨_, rfl⟩
  rw [hw1] at HB HK HT
  rw [hq] at HB HSZ
  rw [hw1, hq]
  have HQ := Lib.hid hq
  clear hw1 hq
  have d0 := (blk_cell HB.out.1 0).trans rfl
  have d1 := (blk_cell HB.out.1 1).trans rfl
  have d2 := (blk_cell HB.out.1 2).trans rfl
  have d3 := (blk_cell HB.out.1 3).trans rfl
  go_wp2_with fail
  ((with_reducible refine (HGR.out _ HT.out).mono ?_); rintro ee w2 ⟨rfl, hk2⟩)
  have HK2 := Lib.hid hk2
  have hb2 := (hk2.block q (by have := HSZ.out; omega) (by have := HSZ.out; omega)).trans HB.out.1
  have HB2 := Lib.hid hb2
  have HT2 := Lib.hid (HT.out.since hk2)
  have HN2 := Lib.hid ((HNB.out.keep HK.out id).since hk2 (by have := HNB.out.pos; have := HSZ.out; omega))
  have d0 := (blk_cell hb2 0).trans rfl
  have d1 := (blk_cell hb2 1).trans rfl
  have d2 := (blk_cell hb2 2).trans rfl
  have d3 := (blk_cell hb2 3).trans rfl
  clear hk2 hb2
  go_wp2_with fail
  ((with_reducible refine (HGS.out _ HT2.out HN2.out).mono ?_); rintro ee w3 ⟨gS, rfl, hgS, hgl, hk3⟩)
  have HK3 := Lib.hid hk3
  have HSP := Lib.hid hgS
  have hb3 := (hk3.block q (blk_lt' HB2.out) (Nat.not_le_of_lt (blk_lt' HB2.out))).trans HB2.out
  have HB3 := Lib.hid hb3
  have HT3 := Lib.hid (HT2.out.since hk3)
  have d2 := (blk_cell hb3 2).trans rfl
  have HW3 := Lib.hid (show Since w.heap.size w w3 from Keep.trans (Since.of HK.out) (Keep.trans (Since.mono HK2.out (by have := HSZ.out; have := HQ.out; omega)) (Since.mono hk3 (by have := HK2.out.size; have := HSZ.out; have := HQ.out; omega))))
  have HQ1 := Lib.hid ((hk3.block (q + 1) (by have := HK2.out.size; have := HSZ.out; omega) (by have := HK2.out.size; have := HSZ.out; omega)).trans ((HK2.out.block (q + 1) (by have := HSZ.out; omega) (by have := HSZ.out; omega)).trans HB.out.2))
  clear hk3 hgS hb3 d0 d1 d3
  go_upto_region 8 with (fail)
  have HKA := Lib.hid (((Keep.refl (fun _ => False) w3).alloc' (.cells (madeCells #[.int .i64 0] N) 3)).alloc' (.cells #[.int .i64 n, .int .i64 0, .slice (some ⟨w3.heap.size, 0, none⟩) N N] 36))
  obtain ⟨hbl, hbr⟩ := @blk_two w3 (.cells (madeCells #[.int .i64 0] N) 3) (.cells #[.int .i64 n, .int .i64 0, .slice (some ⟨w3.heap.size, 0, none⟩) N N] 36)
  obtain ⟨w5, hw5⟩ : ∃ W : World, (w3.alloc (.cells (madeCells #[.int .i64 0] N) 3)).alloc (.cells #[.int .i64 n, .int .i64 0, .slice (some ⟨w3.heap.size, 0, none⟩) N N] 36) = W := ⟨_, rfl⟩
  have HS5 := Lib.hid (show w5.heap.size = w3.heap.size + 2 by rw [← hw5]; simp)
  rw [hw5] at HKA hbl hbr
  obtain ⟨gL, hgL⟩ : ∃ g, w3.heap.size = g := ⟨_, rfl⟩
  rw [hgL] at hbl hbr HS5
  rw [hw5]
  try simp only [World.size_alloc]
  rw [hgL]
  have HGL := Lib.hid hgL
  have hmc : madeCells #[.int .i64 0] N = (ints (fillTo N 0)).toArray := by
    apply Array.ext'
    rw [toList_madeCells_one]
    simp [fillTo, ints]
  rw [hmc] at hbl
  have HBL := Lib.hid hbl
  have HBR := Lib.hid hbr
  have r2 := (blk_cell hbr 2).trans rfl
  have HB5 := Lib.hid ((HKA.out.block q (blk_lt' HB3.out) id).trans HB3.out)
  have HSP5 := Lib.hid ((HKA.out.block gS (blk_lt' HSP.out) id).trans HSP.out)
  have HQ5 := Lib.hid ((HKA.out.block (q + 1) (blk_lt' HQ1.out) id).trans HQ1.out)
  have HTq := Lib.hid (show q + 1 < gL from by rw [← hgL]; exact blk_lt' HQ1.out)
  have HTg := Lib.hid (show gS < gL from by rw [← hgL]; exact blk_lt' HSP.out)
  clear hw5 hgL hmc hbl hbr d2 hmk
  go_wp2_with fail
  clear r2
  go_loopw [9, 41] (fun _ i wr => ∃ k : Nat, k ≤ N ∧ i = .int .i64 (k : Int) ∧ Hid (Keep (fun b => b = gL) w5 wr ∧ wr.heap[gL]? = some (.cells (ints (fillTo N k)).toArray 3 (0, 0)))) (fun _ i _ => N + 1 - (RowKit.intOf i).toNat)
  case atStart => exact ⟨0, Nat.zero_le _, rfl, Lib.hid ⟨Keep.refl _ _, HBL.out⟩⟩
  case round =>
    obtain ⟨k, hk, rfl, HW⟩ := hrel
    obtain ⟨wo, rfl⟩ : ∃ wo : World, wo = wr := ⟨_, rfl⟩
    have hbr := (HW.out.1.block (gL + 1) (blk_lt' HBR.out) (by omega)).trans HBR.out
    have HBRo := Lib.hid hbr
    by_cases hlt : k < N
    · have hb1 : decide (k < N) = true := by simpa using hlt
      have r2 := (blk_cell hbr 2).trans rfl
      have g0 := ints_cell HW.out.2 (j := k) (by rw [fillTo_len N k hk]; exact hlt) 0
      have f0 := blk_free HW.out.2 k
      clear hbr
      go_wp2_with fail
      exact ⟨⟨k + 1, by omega, by go_num, Lib.hid ⟨Keep.trans HW.out.1 (keep_set (Keep.refl (fun b => b = gL) wo) k _), by have h9 := ints_put HW.out.2 k (-1); rw [fillTo_set N k hlt] at h9; exact h9⟩⟩, by simp [RowKit.intOf]; omega⟩
    · have hb1 : decide (k < N) = false := by simpa using hlt
      obtain rfl : N = k := by omega
      have HL0 := Lib.hid (show wo.heap[gL]? = some (.cells (ints (List.replicate N (-1))).toArray 3 (0, 0)) from by rw [← fillTo_end]; exact HW.out.2)
      clear hbr
      go_upto_region 16 with (fail)
      have HBO := Lib.hid (heap_alloc_new wo (.cells #[.bool true, .bool false] 4))
      have hK6 := (Keep.refl (fun _ => False) wo).alloc' (.cells #[.bool true, .bool false] 4)
      obtain ⟨w6, hw6⟩ : ∃ W : World, wo.alloc (.cells #[.bool true, .bool false] 4) = W := ⟨_, rfl⟩
      obtain ⟨gB, hgB⟩ : ∃ g, wo.heap.size = g := ⟨_, rfl⟩
      rw [hw6] at HBO hK6
      rw [hgB] at HBO
      rw [hw6]
      try rw [hgB]
      have HAL := Lib.hid (show AL w6 gL (gL + 1) N n (List.replicate N (-1), 0) w6 from ⟨Keep.refl _ _, (hK6.block gL (blk_lt' HL0.out) id).trans HL0.out, (hK6.block (gL + 1) (blk_lt' HBRo.out) id).trans HBRo.out⟩)
      have HS6 := Lib.hid (show Since w3.heap.size w3 w6 from Keep.trans (Since.of HKA.out) (Keep.trans (Keep.mono HW.out.1 (fun b e => by have := HGL.out; omega)) (Since.of hK6)))
      have HBq := Lib.hid ((HS6.out.block q (blk_lt' HB3.out) (Nat.not_le_of_lt (blk_lt' HB3.out))).trans HB3.out)
      have HGB := Lib.hid (show gL + 1 < gB from by have := blk_lt' HBRo.out; omega)
      have hgBs : gB < w6.heap.size := blk_lt' HBO.out
      have hqL : q + 1 < gL := HTq.out
      clear hw6 hK6 hgB
      go_loopw [51] (fun i wr => ∃ p : Nat, p ≤ 2 ∧ i = .int .i64 (p : Int) ∧ Hid (AL w6 gL (gL + 1) N n (if p = 0 then (List.replicate N (-1), 0) else if p = 1 then runP T.spans T.on n true (List.replicate N (-1), 0) N else allocP T.spans T.on n N) wr ∧ (p = 0 → AInv T.on N true 0 (List.replicate N (-1))) ∧ (p = 1 → AInv T.on N false 0 (runP T.spans T.on n true (List.replicate N (-1), 0) N).1))) (fun i _ => 3 - (RowKit.intOf i).toNat)
      case atStart => exact ⟨0, Nat.zero_le _, rfl, Lib.hid ⟨HAL.out, fun _ => AInv.start _ _, fun e => by omega⟩⟩
      case round =>
        obtain ⟨p, hp, rfl, HW2⟩ := hrel
        obtain ⟨wo, rfl⟩ : ∃ wo : World, wo = wr := ⟨_, rfl⟩
        rcases (show p = 0 ∨ p = 1 ∨ p = 2 by omega) with rfl | rfl | rfl
        · have HI := Lib.hid (show AInv T.on N true 0 (List.replicate N (-1)) from HW2.out.2.1 rfl)
          have HA2 := Lib.hid (show AL w6 gL (gL + 1) N n (List.replicate N (-1), (0 : Int)) wo from HW2.out.1)
          clear HW2
          have b0 := (blk_cell ((HA2.out.keep.block gB (blk_lt' HBO.out) (by have := blk_lt' HBO.out; have := HGB.out; omega)).trans HBO.out) 0).trans rfl
          have d2 := (blk_cell ((HA2.out.keep.block q (by have := blk_lt' HBO.out; have := HGB.out; have := HTq.out; omega) (by have := blk_lt' HBO.out; have := HGB.out; have := HTq.out; omega)).trans HBq.out) 2).trans rfl
          go_wp2_with fail
          clear b0 d2
          go_loopw [58] (fun i wr => ∃ k : Nat, k ≤ N ∧ i = .int .i64 (k : Int) ∧ Hid (AL w6 gL (gL + 1) N n (runP T.spans T.on n true (List.replicate N (-1), (0 : Int)) k) wr ∧ AInv T.on N true k (runP T.spans T.on n true (List.replicate N (-1), (0 : Int)) k).1)) (fun i _ => N + 1 - (RowKit.intOf i).toNat)
          case atStart => exact ⟨0, Nat.zero_le _, rfl, Lib.hid ⟨HA2.out, HI.out⟩⟩
          case round =>
            obtain ⟨k, hk, rfl, HW3⟩ := hrel
            obtain ⟨wo, rfl⟩ : ∃ wo : World, wo = wr := ⟨_, rfl⟩
            obtain ⟨sk, hsk⟩ : ∃ s, (runP T.spans T.on n true (List.replicate N (-1), (0 : Int)) k) = s := ⟨_, rfl⟩
            have HSKE := Lib.hid hsk
            rw [hsk] at HW3
            by_cases hlt : k < N
            · have hb1 : decide (k < N) = true := by simpa using hlt
              have HKL := Lib.hid (show k < T.ins.length by rw [HN.out]; exact hlt)
              have HSo := Lib.hid (show Since w3.heap.size w3 wo from Keep.trans HS6.out (Keep.mono HW3.out.1.keep (fun b e => by have := HGL.out; have := HS6.out.size; omega)))
              have HTo := Lib.hid (HT3.out.since HSo.out)
              obtain ⟨g, rfl, _, hx, hm, hc⟩ := HTo.out.cellsI HKL.out
              obtain ⟨r, hrr⟩ : ∃ r, R.getD k RI.dflt = r := ⟨_, rfl⟩
              rw [hrr] at hx hc
              obtain ⟨⟨op, a, b, c, nn, args, kk, kn, ks, names, pf, pl, ex, once⟩, A2, ca2, N2, cn2⟩ := r
              have z0 : wo.cell? ⟨g, k * 14, none⟩ = some (.int .i64 op) := (hc 0 (by omega)).trans rfl
              have z1 : wo.cell? ⟨g, k * 14 + 1, none⟩ = some (.int .i64 a) := (hc 1 (by omega)).trans rfl
              have z2 : wo.cell? ⟨g, k * 14 + 2, none⟩ = some (.int .i64 b) := (hc 2 (by omega)).trans rfl
              have z3 : wo.cell? ⟨g, k * 14 + 3, none⟩ = some (.int .i64 c) := (hc 3 (by omega)).trans rfl
              have z4 : wo.cell? ⟨g, k * 14 + 4, none⟩ = some (.int .i64 nn) := (hc 4 (by omega)).trans rfl
              have z5 : wo.cell? ⟨g, k * 14 + 5, none⟩ = some (.slice A2 args.length ca2) := (hc 5 (by omega)).trans rfl
              have z6 : wo.cell? ⟨g, k * 14 + 6, none⟩ = some (.int .i64 kk) := (hc 6 (by omega)).trans rfl
              have z7 : wo.cell? ⟨g, k * 14 + 7, none⟩ = some (.int .i64 kn) := (hc 7 (by omega)).trans rfl
              have z8 : wo.cell? ⟨g, k * 14 + 8, none⟩ = some (.string (sb ks)) := (hc 8 (by omega)).trans rfl
              have z9 : wo.cell? ⟨g, k * 14 + 9, none⟩ = some (.slice N2 names.length cn2) := (hc 9 (by omega)).trans rfl
              have z10 : wo.cell? ⟨g, k * 14 + 10, none⟩ = some (.int .i64 pf) := (hc 10 (by omega)).trans rfl
              have z11 : wo.cell? ⟨g, k * 14 + 11, none⟩ = some (.int .i64 pl) := (hc 11 (by omega)).trans rfl
              have z12 : wo.cell? ⟨g, k * 14 + 12, none⟩ = some (.int .i64 ex) := (hc 12 (by omega)).trans rfl
              have z13 : wo.cell? ⟨g, k * 14 + 13, none⟩ = some (.bool once) := (hc 13 (by omega)).trans rfl
              have HX := Lib.hid hx
              clear hrr hm hc hx hsk
              go_upto_region 19 with (fail)
              have hblk := heap_alloc_new wo (.cells #[.int .i64 op, .int .i64 a, .int .i64 b, .int .i64 c, .int .i64 nn, .slice A2 args.length ca2, .int .i64 kk, .int .i64 kn, .string (sb ks), .slice N2 names.length cn2, .int .i64 pf, .int .i64 pl, .int .i64 ex, .bool once] 60)
              have hK7 := (Keep.refl (fun _ => False) wo).alloc' (.cells #[.int .i64 op, .int .i64 a, .int .i64 b, .int .i64 c, .int .i64 nn, .slice A2 args.length ca2, .int .i64 kk, .int .i64 kn, .string (sb ks), .slice N2 names.length cn2, .int .i64 pf, .int .i64 pl, .int .i64 ex, .bool once] 60)
              obtain ⟨bi, hbi⟩ : ∃ bb, wo.heap.size = bb := ⟨_, rfl⟩
              obtain ⟨w7, hw7⟩ : ∃ w7 : World, wo.alloc (.cells #[.int .i64 op, .int .i64 a, .int .i64 b, .int .i64 c, .int .i64 nn, .slice A2 args.length ca2, .int .i64 kk, .int .i64 kn, .string (sb ks), .slice N2 names.length cn2, .int .i64 pf, .int .i64 pl, .int .i64 ex, .bool once] 60) = w7 := ⟨_, rfl⟩
              rw [hw7] at hblk hK7
              rw [hbi] at hblk
              rw [hw7, hbi]
              have HBI := Lib.hid hblk
              have HA7 := Lib.hid (HW3.out.1.quiet hK7)
              have HS7 := Lib.hid (Keep.trans HSo.out (Since.of hK7))
              have y13 := (blk_cell hblk 13).trans rfl
              have hsp := (HS7.out.block gS (blk_lt' HSP.out) (Nat.not_le_of_lt (blk_lt' HSP.out))).trans HSP.out
              have HSP7 := Lib.hid hsp
              have hrl := row2_at T.spans k (by unfold TR.spans; rw [List.length_map, List.length_range]; exact HKL.out)
              obtain ⟨⟨sx, sy⟩, hsxy⟩ : ∃ s, T.spans.getD k (0, 0) = s := ⟨_, rfl⟩
              rw [hsxy] at hrl
              have s0 := (blk_cell hsp (k * 2)).trans (List.getElem?_toArray.trans hrl.1)
              have s1 := (blk_cell hsp (k * 2 + 1)).trans (List.getElem?_toArray.trans hrl.2)
              have HNW := Lib.hid (show NB w7 from (HN2.out.since HK3.out (by have := HN2.out.pos; omega)).since HS7.out (by have := blk_lt' HSP.out; have := HN2.out.pos; have := HK3.out.size; omega))
              have n0 := HNW.out.c0
              have n1 := HNW.out.c1
              have e1 := fun W => eq_pair sx sy (-1) (-1) W
              have HXY := Lib.hid hsxy
              have HON := Lib.hid (show T.on k = once from by unfold TR.on; rw [← HX.out])
              have hkS : decide (k < N) = true := hb1
              obtain ⟨bq, hbq⟩ : ∃ bq, (sx == -1 && sy == -1) = bq := ⟨_, rfl⟩
              rw [hbq] at e1
              have HBQ := Lib.hid hbq
              clear hblk hK7 hbi hw7 hsp hrl hsxy hbq z0 z1 z2 z3 z4 z5 z6 z7 z8 z9 z10 z11 z12 z13
              cases bq with
              | true =>
                have HSK := Lib.hid (show runP T.spans T.on n true (List.replicate N (-1), (0 : Int)) (k + 1) = sk from by
                  show stepP _ _ _ _ _ _ = _
                  rw [HSKE.out]
                  unfold stepP
                  exact if_pos (.inl (by rw [HXY.out]; have h9 := HBQ.out; simp at h9; rw [h9.1, h9.2])))
                go_quiet (fail)
                go_wp2_with fail
                exact ⟨⟨k + 1, by omega, by go_num, Lib.hid ⟨by rw [HSK.out]; exact HA7.out.quiet (keep_drewN _ _ _), by rw [HSK.out]; exact HW3.out.2.skip⟩⟩, by simp [RowKit.intOf]; omega⟩
              | false =>
                cases once with
                | false =>
                  have HSK := Lib.hid (show runP T.spans T.on n true (List.replicate N (-1), (0 : Int)) (k + 1) = sk from by
                    show stepP _ _ _ _ _ _ = _
                    rw [HSKE.out]
                    unfold stepP
                    exact if_pos (.inr (by rw [HON.out]; decide)))
                  go_quiet (fail)
                  go_wp2_with fail
                  exact ⟨⟨k + 1, by omega, by go_num, Lib.hid ⟨by rw [HSK.out]; exact HA7.out.quiet (keep_drewN _ _ _), by rw [HSK.out]; exact HW3.out.2.skip⟩⟩, by simp [RowKit.intOf]; omega⟩
                | true =>
                  go_quiet (fail)
                  go_upto_region 21 with (fail)
                  have hbt := heap_alloc_new (w7.drewN nq) (.cells #[.int .u64 0, .int .u64 0, .int .u64 0, .int .u64 0] 71)
                  have hK8 : Keep (fun _ => False) w7 ((w7.drewN nq).alloc (.cells #[.int .u64 0, .int .u64 0, .int .u64 0, .int .u64 0] 71)) := (keep_drewN (fun _ => False) w7 nq).alloc' _
                  obtain ⟨w8, hw8⟩ : ∃ W : World, (w7.drewN nq).alloc (.cells #[.int .u64 0, .int .u64 0, .int .u64 0, .int .u64 0] 71) = W := ⟨_, rfl⟩
                  obtain ⟨bT, hbT⟩ : ∃ b, w7.heap.size = b := ⟨_, rfl⟩
                  rw [hw8] at hbt hK8
                  rw [show (w7.drewN nq).heap.size = bT from hbT] at hbt
                  rw [hw8]
                  try simp only [World.size_drewN]
                  try rw [hbT]
                  have HBT := Lib.hid hbt
                  have HA8 := Lib.hid (HA7.out.quiet hK8)
                  have HT6 := Lib.hid (show w6.heap.size ≤ bT by rw [← hbT]; exact HA7.out.keep.size)
                  have HTl := Lib.hid (show gL + 1 < bT ∧ gS < bT from ⟨by rw [← hbT]; exact blk_lt' HA7.out.reg, by rw [← hbT]; exact blk_lt' HSP7.out⟩)
                  have HSP8 := Lib.hid ((hK8.block gS (blk_lt' HSP7.out) id).trans HSP7.out)
                  have HS8 := Lib.hid (Keep.trans HS7.out (Since.of hK8))
                  have hL8 := HA8.out.loc
                  have hR8 := HA8.out.reg
                  have HR8 := Lib.hid hR8
                  have HL8 := Lib.hid hL8
                  have HLN := Lib.hid HW3.out.2.len
                  have HXL := Lib.hid (HW3.out.2.lt60 hfew)
                  have r2 := (blk_cell hR8 2).trans rfl
                  clear hbt hK8 hw8 hbT hL8 hR8 s0 s1 n0 n1 e1 y13
                  go_wp2_with fail
                  clear r2
                  go_loopw [15, 16, 78] (fun _ _ i wr => ∃ j : Nat, j ≤ N ∧ i = .int .i64 (j : Int) ∧ Hid (Keep (fun b => b = bT ∨ w8.heap.size ≤ b) w8 wr ∧ wr.heap[bT]? = some (.cells #[.int .u64 ((usedOf T.spans sk.1 k j : Nat) : Int), .int .u64 0, .int .u64 0, .int .u64 0] 71 (0, 0)))) (fun _ _ i _ => N + 1 - (RowKit.intOf i).toNat)
                  case atStart => exact ⟨0, Nat.zero_le _, rfl, Lib.hid ⟨Keep.refl _ _, HBT.out⟩⟩
                  case round =>
                    obtain ⟨j, hj, rfl, HW4⟩ := hrel
                    obtain ⟨wi, rfl⟩ : ∃ wi : World, wi = wr := ⟨_, rfl⟩
                    have hl := (HW4.out.1.block gL (blk_lt' HL8.out) (by have := HTl.out; have := blk_lt' HL8.out; omega)).trans HL8.out
                    have HLI := Lib.hid hl
                    have HRI := Lib.hid ((HW4.out.1.block (gL + 1) (blk_lt' HR8.out) (by have := HTl.out; have := blk_lt' HR8.out; omega)).trans HR8.out)
                    have HSI := Lib.hid ((HW4.out.1.block gS (blk_lt' HSP8.out) (by have := HTl.out; have := blk_lt' HSP8.out; omega)).trans HSP8.out)
                    have HSW := Lib.hid (show Since w3.heap.size w3 wi from Keep.trans HS8.out (Keep.mono HW4.out.1 (fun b e => by have := HTl.out; have := HGL.out; have := HS8.out.size; omega)))
                    have HNI := Lib.hid (show NB wi.drew from ((HN2.out.since HK3.out (by have := HN2.out.pos; omega)).since HSW.out (by have := blk_lt' HSP.out; have := HN2.out.pos; have := HK3.out.size; omega)).keep (keep_draw (fun _ => False) wi) id)
                    by_cases hjt : j < N
                    · have hb2 : decide (j < N) = true := by simpa using hjt
                      have lj := ints_cell hl (j := j) (by rw [HLN.out]; exact hjt) (-1)
                      obtain ⟨v, hv⟩ : ∃ v, sk.1.getD j (-1) = v := ⟨_, rfl⟩
                      rw [hv] at lj
                      have HV := Lib.hid hv
                      by_cases hv0 : v < 0
                      · have HUE := Lib.hid (show usedOf T.spans sk.1 k (j + 1) = usedOf T.spans sk.1 k j from by
                          rw [usedOf]
                          exact if_neg (fun h => by rw [hv] at h; omega))
                        have hd0 : decide (0 ≤ v) = false := by simp; omega
                        clear hv hl
                        go_wp2_with fail
                        go_quiet (fail)
                        go_wp2_with fail
                        exact ⟨⟨j + 1, by omega, by go_num, Lib.hid ⟨Keep.trans HW4.out.1 (keep_drewN _ _ _), by rw [HUE.out]; exact HW4.out.2⟩⟩, by simp [RowKit.intOf]; omega⟩
                      · obtain ⟨vn, rfl⟩ : ∃ vn : Nat, v = (vn : Int) := ⟨v.toNat, by omega⟩
                        have hv60 : vn < 60 := by have := HXL.out j; rw [hv] at this; omega
                        have hlj := row2_at T.spans j (by unfold TR.spans; rw [List.length_map, List.length_range, HN.out]; exact hjt)
                        have hlk := row2_at T.spans k (by unfold TR.spans; rw [List.length_map, List.length_range]; exact HKL.out)
                        obtain ⟨⟨tx, ty⟩, htj⟩ : ∃ s, T.spans.getD j (0, 0) = s := ⟨_, rfl⟩
                        rw [htj] at hlj
                        rw [HXY.out] at hlk
                        have HTJ := Lib.hid (And.intro (List.getElem?_toArray.trans hlj.1) (List.getElem?_toArray.trans hlj.2))
                        have HTK := Lib.hid (And.intro (List.getElem?_toArray.trans hlk.1) (List.getElem?_toArray.trans hlk.2))
                        obtain ⟨cf, hcf⟩ : ∃ c, confl (tx, ty) (sx, sy) = c := ⟨_, rfl⟩
                        have HCF := Lib.hid (fun W (hn : NB W) => conflict_any tx ty sx sy hn)
                        rw [hcf] at HCF
                        have HCV := Lib.hid hcf
                        have HTV := Lib.hid htj
                        clear hlj hlk htj hcf hl hv
                        cases cf with
                        | true =>
                          have HUE := Lib.hid (show usedOf T.spans sk.1 k (j + 1) = usedOf T.spans sk.1 k j ||| 2 ^ vn from by
                            rw [usedOf, HV.out, if_pos ⟨by omega, by rw [HTV.out, HXY.out]; exact HCV.out⟩]
                            rfl)
                          go_upto_region 24 with (fail)
                          refine wp_region_drewU (S := (fun w' => Hid (w'.heap[gS]? = some (.cells (row2 T.spans).toArray 34 (0, 0))))) (D := []) (by kernel_rfl) (by exact Lib.hid HSI.out) (fun hH => ?_)
                          refine wpAnyU_take (i := 0) (v := ?_) rfl (by kernel_rfl) (by kernel_rfl) (by kernel_rfl) (by kernel_rfl) (fun _ _ _ h => h) (Or.inl ⟨by rfl, ?_⟩) hH ?_
                          rotate_left
                          · (intro w'' hSw; (try dsimp only at hSw); go_simp; try with_reducible rfl)
                          change wpAnyU _ _ _ _ _ _ _ _ (Act.put _ (some 83) _) _
                          try simp only [Act.put, List.setIfInBounds_toArray, List.set_cons_zero, List.set_cons_succ]
                          refine wpAnyU_take (i := 1) (v := ?_) rfl (by kernel_rfl) (by kernel_rfl) (by kernel_rfl) (by kernel_rfl) (fun _ _ _ h => h) (Or.inl ⟨by rfl, ?_⟩) hH ?_
                          rotate_left
                          · (intro w'' hSw; (try dsimp only at hSw); go_simp; try with_reducible rfl)
                          change wpAnyU _ _ _ _ _ _ _ _ (Act.put _ (some 84) _) _
                          try simp only [Act.put, List.setIfInBounds_toArray, List.set_cons_zero, List.set_cons_succ]
                          refine wpAnyU_take (i := 2) (v := ?_) rfl (by kernel_rfl) (by kernel_rfl) (by kernel_rfl) (by kernel_rfl) (fun _ _ _ h => h) (Or.inl ⟨by rfl, ?_⟩) hH ?_
                          rotate_left
                          · (intro w'' hSw; (try dsimp only at hSw); go_simp; try with_reducible rfl)
                          change wpAnyU _ _ _ _ _ _ _ _ (Act.put _ (some 85) _) _
                          try simp only [Act.put, List.setIfInBounds_toArray, List.set_cons_zero, List.set_cons_succ]
                          refine wpAnyU_take (i := 3) (v := ?_) rfl (by kernel_rfl) (by kernel_rfl) (by kernel_rfl) (by kernel_rfl) (fun _ _ _ h => h) (Or.inl ⟨by rfl, ?_⟩) hH ?_
                          rotate_left
                          · (intro w'' hSw; (try dsimp only at hSw); go_simp; try with_reducible rfl)
                          change wpAnyU _ _ _ _ _ _ _ _ (Act.put _ (some 86) _) _
                          try simp only [Act.put, List.setIfInBounds_toArray, List.set_cons_zero, List.set_cons_succ]
                          refine wpAnyU_take (i := 4) (v := ?_) rfl (by kernel_rfl) (by kernel_rfl) (by kernel_rfl) (by kernel_rfl) (fun _ _ _ h => h) (Or.inl ⟨by rfl, ?_⟩) hH ?_
                          rotate_left
                          · (intro w'' hSw; (try dsimp only at hSw); go_simp; try with_reducible rfl)
                          change wpAnyU _ _ _ _ _ _ _ _ (Act.put _ (some 87) _) _
                          try simp only [Act.put, List.setIfInBounds_toArray, List.set_cons_zero, List.set_cons_succ]
                          refine wpAnyU_take (i := 5) (v := ?_) rfl (by kernel_rfl) (by kernel_rfl) (by kernel_rfl) (by kernel_rfl) (fun _ _ _ h => h) (Or.inl ⟨by rfl, ?_⟩) hH ?_
                          rotate_left
                          · (intro w'' hSw; (try dsimp only at hSw); go_simp; try with_reducible rfl)
                          change wpAnyU _ _ _ _ _ _ _ _ (Act.put _ (some 88) _) _
                          try simp only [Act.put, List.setIfInBounds_toArray, List.set_cons_zero, List.set_cons_succ]
                          refine wpAnyU_take (i := 6) (v := ?_) rfl (by kernel_rfl) (by kernel_rfl) (by kernel_rfl) (by kernel_rfl) (fun _ _ _ h => h) (Or.inl ⟨by rfl, ?_⟩) hH ?_
                          rotate_left
                          · (intro w'' hSw; (have t0 := (blk_cell hSw.out (j * 2)).trans HTJ.out.1; have t1 := (blk_cell hSw.out (j * 2 + 1)).trans HTJ.out.2); go_simp; try with_reducible rfl)
                          change wpAnyU _ _ _ _ _ _ _ _ (Act.put _ (some 89) _) _
                          try simp only [Act.put, List.setIfInBounds_toArray, List.set_cons_zero, List.set_cons_succ]
                          refine wpAnyU_take (i := 7) (v := ?_) rfl (by kernel_rfl) (by kernel_rfl) (by kernel_rfl) (by kernel_rfl) (fun _ _ _ h => h) (Or.inl ⟨by rfl, ?_⟩) hH ?_
                          rotate_left
                          · (intro w'' hSw; (try dsimp only at hSw); go_simp; try with_reducible rfl)
                          change wpAnyU _ _ _ _ _ _ _ _ (Act.put _ (some 90) _) _
                          try simp only [Act.put, List.setIfInBounds_toArray, List.set_cons_zero, List.set_cons_succ]
                          refine wpAnyU_take (i := 8) (v := ?_) rfl (by kernel_rfl) (by kernel_rfl) (by kernel_rfl) (by kernel_rfl) (fun _ _ _ h => h) (Or.inl ⟨by rfl, ?_⟩) hH ?_
                          rotate_left
                          · (intro w'' hSw; (try dsimp only at hSw); go_simp; try with_reducible rfl)
                          change wpAnyU _ _ _ _ _ _ _ _ (Act.put _ (some 91) _) _
                          try simp only [Act.put, List.setIfInBounds_toArray, List.set_cons_zero, List.set_cons_succ]
                          refine wpAnyU_take (i := 9) (v := ?_) rfl (by kernel_rfl) (by kernel_rfl) (by kernel_rfl) (by kernel_rfl) (fun _ _ _ h => h) (Or.inl ⟨by rfl, ?_⟩) hH ?_
                          rotate_left
                          · (intro w'' hSw; (try dsimp only at hSw); go_simp; try with_reducible rfl)
                          change wpAnyU _ _ _ _ _ _ _ _ (Act.put _ (some 92) _) _
                          try simp only [Act.put, List.setIfInBounds_toArray, List.set_cons_zero, List.set_cons_succ]
                          refine wpAnyU_take (i := 10) (v := ?_) rfl (by kernel_rfl) (by kernel_rfl) (by kernel_rfl) (by kernel_rfl) (fun _ _ _ h => h) (Or.inl ⟨by rfl, ?_⟩) hH ?_
                          rotate_left
                          · (intro w'' hSw; (have t0 := (blk_cell hSw.out (k * 2)).trans HTK.out.1; have t1 := (blk_cell hSw.out (k * 2 + 1)).trans HTK.out.2); go_simp; try with_reducible rfl)
                          change wpAnyU _ _ _ _ _ _ _ _ (Act.put _ (some 93) _) _
                          try simp only [Act.put, List.setIfInBounds_toArray, List.set_cons_zero, List.set_cons_succ]
                          refine wpAnyU_ready (rs := [11]) (by kernel_rfl) (by simp) ?_
                          refine AllReadyU.cons rfl (fun Kn hKn => ?_) AllReadyU.nil
                          go_simp
                          go_at_call 28
                          (with_reducible refine (HCF.out _ HNI.out).mono ?_)
                          rintro ee wq ⟨rfl, hkq⟩
                          have HKQ := Lib.hid hkq
                          clear hkq
                          refine hKn.out _ _ ?_ (fun hH => ?_)
                          · (exact Lib.hid ((HKQ.out.block gS (blk_lt' hH.out) id).trans hH.out))
                          clear hKn Kn
                          try simp only [Act.put, List.setIfInBounds_toArray, List.set_cons_zero, List.set_cons_succ]
                          refine wpAnyU_take (i := 12) (v := ?_) rfl (by kernel_rfl) (by kernel_rfl) (by kernel_rfl) (by kernel_rfl) (fun _ _ _ h => h) (Or.inl ⟨by rfl, ?_⟩) hH ?_
                          rotate_left
                          · (intro w'' hSw; (try dsimp only at hSw); go_simp; try with_reducible rfl)
                          change wpAnyU _ _ _ _ _ _ _ _ (Act.put _ (some 95) _) _
                          try simp only [Act.put, List.setIfInBounds_toArray, List.set_cons_zero, List.set_cons_succ]
                          refine wpAnyU_done (by kernel_rfl) ?_ _
                          have hbq := (HKQ.out.block bT (blk_lt' HW4.out.2) id).trans HW4.out.2
                          have HAD := Lib.hid (tadd_any (n := vn) (x := usedOf T.spans sk.1 k j) (Nat.lt_trans (usedOf_lt T.spans sk.1 k HXL.out j) (by decide)) (by omega) hbq)
                          clear hbq
                          go_wp2_with fail
                          ((with_reducible refine HAD.out.mono ?_); rintro ee wa ⟨rfl, hka, hba⟩)
                          have HKA2 := Lib.hid hka
                          have HBA := Lib.hid hba
                          clear hka hba
                          go_wp2_with fail
                          exact ⟨⟨j + 1, by omega, by go_num, Lib.hid ⟨Keep.trans HW4.out.1 (Keep.trans (keep_draw _ wi) (Keep.trans (Keep.mono HKQ.out (fun _ e => e.elim)) (Keep.mono HKA2.out (fun _ => .inl)))), by rw [HUE.out]; exact HBA.out⟩⟩, by simp [RowKit.intOf]; omega⟩
                        | false =>
                          have HUE := Lib.hid (show usedOf T.spans sk.1 k (j + 1) = usedOf T.spans sk.1 k j from by
                            rw [usedOf]
                            exact if_neg (fun h => by rw [HTV.out, HXY.out, HCV.out] at h; exact Bool.noConfusion h.2))
                          go_upto_region 24 with (fail)
                          refine wp_region_drewU (S := (fun w' => Hid (w'.heap[gS]? = some (.cells (row2 T.spans).toArray 34 (0, 0))))) (D := []) (by kernel_rfl) (by exact Lib.hid HSI.out) (fun hH => ?_)
                          refine wpAnyU_take (i := 0) (v := ?_) rfl (by kernel_rfl) (by kernel_rfl) (by kernel_rfl) (by kernel_rfl) (fun _ _ _ h => h) (Or.inl ⟨by rfl, ?_⟩) hH ?_
                          rotate_left
                          · (intro w'' hSw; (try dsimp only at hSw); go_simp; try with_reducible rfl)
                          change wpAnyU _ _ _ _ _ _ _ _ (Act.put _ (some 83) _) _
                          try simp only [Act.put, List.setIfInBounds_toArray, List.set_cons_zero, List.set_cons_succ]
                          refine wpAnyU_take (i := 1) (v := ?_) rfl (by kernel_rfl) (by kernel_rfl) (by kernel_rfl) (by kernel_rfl) (fun _ _ _ h => h) (Or.inl ⟨by rfl, ?_⟩) hH ?_
                          rotate_left
                          · (intro w'' hSw; (try dsimp only at hSw); go_simp; try with_reducible rfl)
                          change wpAnyU _ _ _ _ _ _ _ _ (Act.put _ (some 84) _) _
                          try simp only [Act.put, List.setIfInBounds_toArray, List.set_cons_zero, List.set_cons_succ]
                          refine wpAnyU_take (i := 2) (v := ?_) rfl (by kernel_rfl) (by kernel_rfl) (by kernel_rfl) (by kernel_rfl) (fun _ _ _ h => h) (Or.inl ⟨by rfl, ?_⟩) hH ?_
                          rotate_left
                          · (intro w'' hSw; (try dsimp only at hSw); go_simp; try with_reducible rfl)
                          change wpAnyU _ _ _ _ _ _ _ _ (Act.put _ (some 85) _) _
                          try simp only [Act.put, List.setIfInBounds_toArray, List.set_cons_zero, List.set_cons_succ]
                          refine wpAnyU_take (i := 3) (v := ?_) rfl (by kernel_rfl) (by kernel_rfl) (by kernel_rfl) (by kernel_rfl) (fun _ _ _ h => h) (Or.inl ⟨by rfl, ?_⟩) hH ?_
                          rotate_left
                          · (intro w'' hSw; (try dsimp only at hSw); go_simp; try with_reducible rfl)
                          change wpAnyU _ _ _ _ _ _ _ _ (Act.put _ (some 86) _) _
                          try simp only [Act.put, List.setIfInBounds_toArray, List.set_cons_zero, List.set_cons_succ]
                          refine wpAnyU_take (i := 4) (v := ?_) rfl (by kernel_rfl) (by kernel_rfl) (by kernel_rfl) (by kernel_rfl) (fun _ _ _ h => h) (Or.inl ⟨by rfl, ?_⟩) hH ?_
                          rotate_left
                          · (intro w'' hSw; (try dsimp only at hSw); go_simp; try with_reducible rfl)
                          change wpAnyU _ _ _ _ _ _ _ _ (Act.put _ (some 87) _) _
                          try simp only [Act.put, List.setIfInBounds_toArray, List.set_cons_zero, List.set_cons_succ]
                          refine wpAnyU_take (i := 5) (v := ?_) rfl (by kernel_rfl) (by kernel_rfl) (by kernel_rfl) (by kernel_rfl) (fun _ _ _ h => h) (Or.inl ⟨by rfl, ?_⟩) hH ?_
                          rotate_left
                          · (intro w'' hSw; (try dsimp only at hSw); go_simp; try with_reducible rfl)
                          change wpAnyU _ _ _ _ _ _ _ _ (Act.put _ (some 88) _) _
                          try simp only [Act.put, List.setIfInBounds_toArray, List.set_cons_zero, List.set_cons_succ]
                          refine wpAnyU_take (i := 6) (v := ?_) rfl (by kernel_rfl) (by kernel_rfl) (by kernel_rfl) (by kernel_rfl) (fun _ _ _ h => h) (Or.inl ⟨by rfl, ?_⟩) hH ?_
                          rotate_left
                          · (intro w'' hSw; (have t0 := (blk_cell hSw.out (j * 2)).trans HTJ.out.1; have t1 := (blk_cell hSw.out (j * 2 + 1)).trans HTJ.out.2); go_simp; try with_reducible rfl)
                          change wpAnyU _ _ _ _ _ _ _ _ (Act.put _ (some 89) _) _
                          try simp only [Act.put, List.setIfInBounds_toArray, List.set_cons_zero, List.set_cons_succ]
                          refine wpAnyU_take (i := 7) (v := ?_) rfl (by kernel_rfl) (by kernel_rfl) (by kernel_rfl) (by kernel_rfl) (fun _ _ _ h => h) (Or.inl ⟨by rfl, ?_⟩) hH ?_
                          rotate_left
                          · (intro w'' hSw; (try dsimp only at hSw); go_simp; try with_reducible rfl)
                          change wpAnyU _ _ _ _ _ _ _ _ (Act.put _ (some 90) _) _
                          try simp only [Act.put, List.setIfInBounds_toArray, List.set_cons_zero, List.set_cons_succ]
                          refine wpAnyU_take (i := 8) (v := ?_) rfl (by kernel_rfl) (by kernel_rfl) (by kernel_rfl) (by kernel_rfl) (fun _ _ _ h => h) (Or.inl ⟨by rfl, ?_⟩) hH ?_
                          rotate_left
                          · (intro w'' hSw; (try dsimp only at hSw); go_simp; try with_reducible rfl)
                          change wpAnyU _ _ _ _ _ _ _ _ (Act.put _ (some 91) _) _
                          try simp only [Act.put, List.setIfInBounds_toArray, List.set_cons_zero, List.set_cons_succ]
                          refine wpAnyU_take (i := 9) (v := ?_) rfl (by kernel_rfl) (by kernel_rfl) (by kernel_rfl) (by kernel_rfl) (fun _ _ _ h => h) (Or.inl ⟨by rfl, ?_⟩) hH ?_
                          rotate_left
                          · (intro w'' hSw; (try dsimp only at hSw); go_simp; try with_reducible rfl)
                          change wpAnyU _ _ _ _ _ _ _ _ (Act.put _ (some 92) _) _
                          try simp only [Act.put, List.setIfInBounds_toArray, List.set_cons_zero, List.set_cons_succ]
                          refine wpAnyU_take (i := 10) (v := ?_) rfl (by kernel_rfl) (by kernel_rfl) (by kernel_rfl) (by kernel_rfl) (fun _ _ _ h => h) (Or.inl ⟨by rfl, ?_⟩) hH ?_
                          rotate_left
                          · (intro w'' hSw; (have t0 := (blk_cell hSw.out (k * 2)).trans HTK.out.1; have t1 := (blk_cell hSw.out (k * 2 + 1)).trans HTK.out.2); go_simp; try with_reducible rfl)
                          change wpAnyU _ _ _ _ _ _ _ _ (Act.put _ (some 93) _) _
                          try simp only [Act.put, List.setIfInBounds_toArray, List.set_cons_zero, List.set_cons_succ]
                          refine wpAnyU_ready (rs := [11]) (by kernel_rfl) (by simp) ?_
                          refine AllReadyU.cons rfl (fun Kn hKn => ?_) AllReadyU.nil
                          go_simp
                          go_at_call 28
                          (with_reducible refine (HCF.out _ HNI.out).mono ?_)
                          rintro ee wq ⟨rfl, hkq⟩
                          have HKQ := Lib.hid hkq
                          clear hkq
                          refine hKn.out _ _ ?_ (fun hH => ?_)
                          · (exact Lib.hid ((HKQ.out.block gS (blk_lt' hH.out) id).trans hH.out))
                          clear hKn Kn
                          try simp only [Act.put, List.setIfInBounds_toArray, List.set_cons_zero, List.set_cons_succ]
                          refine wpAnyU_take (i := 12) (v := ?_) rfl (by kernel_rfl) (by kernel_rfl) (by kernel_rfl) (by kernel_rfl) (fun _ _ _ h => h) (Or.inl ⟨by rfl, ?_⟩) hH ?_
                          rotate_left
                          · (intro w'' hSw; (try dsimp only at hSw); go_simp; try with_reducible rfl)
                          change wpAnyU _ _ _ _ _ _ _ _ (Act.put _ (some 95) _) _
                          try simp only [Act.put, List.setIfInBounds_toArray, List.set_cons_zero, List.set_cons_succ]
                          refine wpAnyU_done (by kernel_rfl) ?_ _
                          go_wp2_with fail
                          exact ⟨⟨j + 1, by omega, by go_num, Lib.hid ⟨Keep.trans HW4.out.1 (Keep.trans (keep_draw _ wi) (Keep.mono HKQ.out (fun _ e => e.elim))), by rw [HUE.out]; exact (HKQ.out.block bT (blk_lt' HW4.out.2) id).trans HW4.out.2⟩⟩, by simp [RowKit.intOf]; omega⟩
                    · have hb2 : decide (j < N) = false := by simpa using hjt
                      obtain rfl : N = j := by omega
                      have HKN := Lib.hid hlt
                      have HTW := Lib.hid (show TBW wi.drew from ((((HTB.out.keep HK.out id).since HK2.out (by have := HTB.out.pos; have := HSZ.out; omega)).since HK3.out (by have := HTB.out.pos; have := HSZ.out; have := HK2.out.size; omega)).since HSW.out (by have := HTB.out.pos; have := HSZ.out; have := HK2.out.size; have := HK3.out.size; omega)).keep (keep_draw (fun _ => False) wi) id)
                      have HLD := Lib.hid (show wi.drew.heap[gL]? = _ from HLI.out)
                      have HFR := Lib.hid (tfree_any (x := usedOf T.spans sk.1 k N) (Nat.lt_trans (usedOf_lt T.spans sk.1 k HXL.out N) (by decide)) HTW.out (show wi.drew.heap[bT]? = _ from HW4.out.2))
                      obtain ⟨fv, hfv⟩ : ∃ fv, Lib.ctz 64 (18446744073709551615 ^^^ usedOf T.spans sk.1 k N) = fv := ⟨_, rfl⟩
                      have hf60 : fv ≤ 60 := by
                        have h1 := (HW3.out.2.free hfew T.spans k N).2.2
                        have h2 := List.countP_le_length (p := fun x : Int => decide (0 ≤ x)) (l := sk.1)
                        have h3 := HW3.out.2.len
                        unfold lowFree at h1
                        rw [hfv] at h1
                        omega
                      rw [hfv] at HFR
                      have HFV := Lib.hid hfv
                      have HRP := Lib.hid (show runP T.spans T.on n true (List.replicate N (-1), (0 : Int)) (k + 1) = (sk.1.set k (fv : Int), max sk.2 ((fv : Int) + 1 - n)) from by
                        show stepP _ _ _ _ _ _ = _
                        rw [HSKE.out]
                        unfold stepP lowFree
                        rw [if_neg (fun h => h.elim (fun h => by
                          rw [HXY.out] at h
                          have h9 := HBQ.out
                          injection h with h1 h2
                          subst h1 h2
                          revert h9
                          decide) (fun h => h HON.out)), HLN.out, hfv])
                      clear hl hfv
                      go_upto_region 27 with (fail)
                      refine wp_region_drewU (S := (fun w' => Hid (w'.heap[gL + 1]? = some (.cells #[.int .i64 n, .int .i64 sk.2, .slice (some ⟨gL, 0, none⟩) N N] 36 (0, 0))))) (D := [4, 5]) (by kernel_rfl) (by exact Lib.hid HRI.out) (fun hH => ?_)
                      refine wpAnyU_take (i := 0) (v := ?_) rfl (by kernel_rfl) (by kernel_rfl) (by kernel_rfl) (by kernel_rfl) (fun _ _ _ h => h) (Or.inl ⟨by rfl, ?_⟩) hH ?_
                      rotate_left
                      · (intro w'' hSw; (try dsimp only at hSw); go_simp; try with_reducible rfl)
                      change wpAnyU _ _ _ _ _ _ _ _ (Act.put _ (some 99) _) _
                      try simp only [Act.put, List.setIfInBounds_toArray, List.set_cons_zero, List.set_cons_succ]
                      refine wpAnyU_take (i := 1) (v := ?_) rfl (by kernel_rfl) (by kernel_rfl) (by kernel_rfl) (by kernel_rfl) (fun _ _ _ h => h) (Or.inl ⟨by rfl, ?_⟩) hH ?_
                      rotate_left
                      · (intro w'' hSw; have r2 := (blk_cell hSw.out 2).trans rfl; go_simp; try with_reducible rfl)
                      change wpAnyU _ _ _ _ _ _ _ _ (Act.put _ (some 100) _) _
                      try simp only [Act.put, List.setIfInBounds_toArray, List.set_cons_zero, List.set_cons_succ]
                      refine wpAnyU_take (i := 2) (v := ?_) rfl (by kernel_rfl) (by kernel_rfl) (by kernel_rfl) (by kernel_rfl) (fun _ _ _ h => h) (Or.inl ⟨by rfl, ?_⟩) hH ?_
                      rotate_left
                      · (intro w'' hSw; (try dsimp only at hSw); go_simp; try with_reducible rfl)
                      change wpAnyU _ _ _ _ _ _ _ _ (Act.put _ (some 101) _) _
                      try simp only [Act.put, List.setIfInBounds_toArray, List.set_cons_zero, List.set_cons_succ]
                      refine wpAnyU_ready (rs := [3]) (by kernel_rfl) (by simp) ?_
                      refine AllReadyU.cons rfl (fun Kn hKn => ?_) AllReadyU.nil
                      go_simp
                      go_at_call 30
                      (with_reducible refine (HFR.out).mono ?_)
                      rintro ee wf ⟨rfl, hkf⟩
                      have HKF := Lib.hid hkf
                      have hlf := (hkf.block gL (blk_lt' HLD.out) id).trans HLD.out
                      have HLF := Lib.hid hlf
                      have g0 := ints_cell hlf (j := k) (by rw [HLN.out]; exact HKN.out) (-1)
                      have f0 := blk_free hlf k
                      clear hkf hlf
                      refine hKn.out _ _ ?_ (fun hH => ?_)
                      · (exact Lib.hid ((HKF.out.block (gL + 1) (blk_lt' hH.out) id).trans hH.out))
                      clear hKn Kn
                      try simp only [Act.put, List.setIfInBounds_toArray, List.set_cons_zero, List.set_cons_succ]
                      refine wpAnyU_pure (i := 4) (v := ?_) rfl (by kernel_rfl) (by kernel_rfl) (by kernel_rfl) (by rfl) (fun _ _ _ h => h) (Or.inl ⟨by rfl, ?_⟩) ?_
                      rotate_left
                      · (intro w'' _; go_simp; try with_reducible rfl)
                      change wpAnyU _ _ _ _ _ _ _ _ (Act.put _ (some 103) _) _
                      try simp only [Act.put, List.setIfInBounds_toArray, List.set_cons_zero, List.set_cons_succ]
                      refine wpAnyU_ready (rs := [5]) (by kernel_rfl) (by simp) ?_
                      refine AllReadyU.last rfl (by rfl) (fun Kn hKn => ?_) AllReadyU.nil
                      go_simp
                      refine hKn.out _ _ ?_
                      clear hKn Kn
                      try simp only [Act.put, List.setIfInBounds_toArray, List.set_cons_zero, List.set_cons_succ]
                      refine wpAnyU_done (by kernel_rfl) ?_ _
                      have HLZ := Lib.hid (ints_put HLF.out k (fv : Int))
                      have HRZ := Lib.hid (((keep_set (Keep.refl (fun b => b = gL) wf) k (.int .i64 (fv : Int))).block (gL + 1) (blk_lt' (((HKF.out.block (gL + 1) (blk_lt' HRI.out) id).trans HRI.out))) (by omega)).trans ((HKF.out.block (gL + 1) (blk_lt' HRI.out) id).trans HRI.out))
                      have HKZ := Lib.hid (keep_set (Keep.refl (fun b => b = gL) wf) k (.int .i64 (fv : Int)))
                      obtain ⟨wz, hwz⟩ : ∃ W : World, wf.setCell ⟨gL, k, none⟩ (.int .i64 (fv : Int)) = W := ⟨_, rfl⟩
                      rw [hwz] at HLZ HRZ HKZ
                      rw [hwz]
                      clear hwz g0 f0
                      go_upto_region 28 with (fail)
                      refine wp_region_drewU (S := (fun w' => Hid (w'.heap[gL + 1]? = some (.cells #[.int .i64 n, .int .i64 sk.2, .slice (some ⟨gL, 0, none⟩) N N] 36 (0, 0)) ∧ w'.heap[gL]? = some (.cells (ints (sk.1.set k (fv : Int))).toArray 3 (0, 0))))) (D := [11, 12]) (by kernel_rfl) (by exact Lib.hid ⟨HRZ.out, HLZ.out⟩) (fun hH => ?_)
                      have HRY := Lib.hid (show wz.drew.heap[gL + 1]? = _ from HRZ.out)
                      obtain ⟨wy, hwy⟩ : ∃ W : World, wz.drew = W := ⟨_, rfl⟩
                      rw [hwy] at hH HRY ⊢
                      have HWY := Lib.hid hwy
                      clear hwy
                      refine wpAnyU_take (i := 0) (v := ?_) rfl (by kernel_rfl) (by kernel_rfl) (by kernel_rfl) (by kernel_rfl) (fun _ _ _ h => h) (Or.inl ⟨by rfl, ?_⟩) hH ?_
                      rotate_left
                      · (intro w'' hSw; (try dsimp only at hSw); go_simp; try with_reducible rfl)
                      change wpAnyU _ _ _ _ _ _ _ _ (Act.put _ (some 104) _) _
                      try simp only [Act.put, List.setIfInBounds_toArray, List.set_cons_zero, List.set_cons_succ]
                      refine wpAnyU_take (i := 1) (v := ?_) rfl (by kernel_rfl) (by kernel_rfl) (by kernel_rfl) (by kernel_rfl) (fun _ _ _ h => h) (Or.inl ⟨by rfl, ?_⟩) hH ?_
                      rotate_left
                      · (intro w'' hSw; (have r1 := (blk_cell hSw.out.1 1).trans rfl); go_simp; try with_reducible rfl)
                      change wpAnyU _ _ _ _ _ _ _ _ (Act.put _ (some 105) _) _
                      try simp only [Act.put, List.setIfInBounds_toArray, List.set_cons_zero, List.set_cons_succ]
                      refine wpAnyU_take (i := 2) (v := ?_) rfl (by kernel_rfl) (by kernel_rfl) (by kernel_rfl) (by kernel_rfl) (fun _ _ _ h => h) (Or.inl ⟨by rfl, ?_⟩) hH ?_
                      rotate_left
                      · (intro w'' hSw; (try dsimp only at hSw); go_simp; try with_reducible rfl)
                      change wpAnyU _ _ _ _ _ _ _ _ (Act.put _ (some 106) _) _
                      try simp only [Act.put, List.setIfInBounds_toArray, List.set_cons_zero, List.set_cons_succ]
                      refine wpAnyU_take (i := 3) (v := ?_) rfl (by kernel_rfl) (by kernel_rfl) (by kernel_rfl) (by kernel_rfl) (fun _ _ _ h => h) (Or.inl ⟨by rfl, ?_⟩) hH ?_
                      rotate_left
                      · (intro w'' hSw; (have r2 := (blk_cell hSw.out.1 2).trans rfl); go_simp; try with_reducible rfl)
                      change wpAnyU _ _ _ _ _ _ _ _ (Act.put _ (some 107) _) _
                      try simp only [Act.put, List.setIfInBounds_toArray, List.set_cons_zero, List.set_cons_succ]
                      refine wpAnyU_take (i := 4) (v := ?_) rfl (by kernel_rfl) (by kernel_rfl) (by kernel_rfl) (by kernel_rfl) (fun _ _ _ h => h) (Or.inl ⟨by rfl, ?_⟩) hH ?_
                      rotate_left
                      · (intro w'' hSw; (try dsimp only at hSw); go_simp; try with_reducible rfl)
                      change wpAnyU _ _ _ _ _ _ _ _ (Act.put _ (some 108) _) _
                      try simp only [Act.put, List.setIfInBounds_toArray, List.set_cons_zero, List.set_cons_succ]
                      refine wpAnyU_take (i := 5) (v := ?_) rfl (by kernel_rfl) (by kernel_rfl) (by kernel_rfl) (by kernel_rfl) (fun _ _ _ h => h) (Or.inl ⟨by rfl, ?_⟩) hH ?_
                      rotate_left
                      · (intro w'' hSw; (try dsimp only at hSw); go_simp; try with_reducible rfl)
                      change wpAnyU _ _ _ _ _ _ _ _ (Act.put _ (some 109) _) _
                      try simp only [Act.put, List.setIfInBounds_toArray, List.set_cons_zero, List.set_cons_succ]
                      refine wpAnyU_take (i := 6) (v := ?_) rfl (by kernel_rfl) (by kernel_rfl) (by kernel_rfl) (by kernel_rfl) (fun _ _ _ h => h) (Or.inl ⟨by rfl, ?_⟩) hH ?_
                      rotate_left
                      · (intro w'' hSw; (have l0 := ints_cell hSw.out.2 (j := k) (by rw [List.length_set, HLN.out]; exact HKN.out) (-1); rw [getD_set, if_pos ⟨rfl, by rw [HLN.out]; exact HKN.out⟩] at l0); go_simp; try with_reducible rfl)
                      change wpAnyU _ _ _ _ _ _ _ _ (Act.put _ (some 110) _) _
                      try simp only [Act.put, List.setIfInBounds_toArray, List.set_cons_zero, List.set_cons_succ]
                      refine wpAnyU_take (i := 7) (v := ?_) rfl (by kernel_rfl) (by kernel_rfl) (by kernel_rfl) (by kernel_rfl) (fun _ _ _ h => h) (Or.inl ⟨by rfl, ?_⟩) hH ?_
                      rotate_left
                      · (intro w'' hSw; (try dsimp only at hSw); go_simp; try with_reducible rfl)
                      change wpAnyU _ _ _ _ _ _ _ _ (Act.put _ (some 111) _) _
                      try simp only [Act.put, List.setIfInBounds_toArray, List.set_cons_zero, List.set_cons_succ]
                      refine wpAnyU_take (i := 8) (v := ?_) rfl (by kernel_rfl) (by kernel_rfl) (by kernel_rfl) (by kernel_rfl) (fun _ _ _ h => h) (Or.inl ⟨by rfl, ?_⟩) hH ?_
                      rotate_left
                      · (intro w'' hSw; (try dsimp only at hSw); go_simp; try with_reducible rfl)
                      change wpAnyU _ _ _ _ _ _ _ _ (Act.put _ (some 112) _) _
                      try simp only [Act.put, List.setIfInBounds_toArray, List.set_cons_zero, List.set_cons_succ]
                      refine wpAnyU_take (i := 9) (v := ?_) rfl (by kernel_rfl) (by kernel_rfl) (by kernel_rfl) (by kernel_rfl) (fun _ _ _ h => h) (Or.inl ⟨by rfl, ?_⟩) hH ?_
                      rotate_left
                      · (intro w'' hSw; (try dsimp only at hSw); go_simp; try with_reducible rfl)
                      change wpAnyU _ _ _ _ _ _ _ _ (Act.put _ (some 113) _) _
                      try simp only [Act.put, List.setIfInBounds_toArray, List.set_cons_zero, List.set_cons_succ]
                      refine wpAnyU_take (i := 10) (v := ?_) rfl (by kernel_rfl) (by kernel_rfl) (by kernel_rfl) (by kernel_rfl) (fun _ _ _ h => h) (Or.inl ⟨by rfl, ?_⟩) hH ?_
                      rotate_left
                      · (intro w'' hSw; (try dsimp only at hSw); go_simp; try with_reducible rfl)
                      change wpAnyU _ _ _ _ _ _ _ _ (Act.put _ (some 114) _) _
                      try simp only [Act.put, List.setIfInBounds_toArray, List.set_cons_zero, List.set_cons_succ]
                      refine wpAnyU_pure (i := 11) (v := ?_) rfl (by kernel_rfl) (by kernel_rfl) (by kernel_rfl) (by rfl) (fun _ _ _ h => h) (Or.inl ⟨by rfl, ?_⟩) ?_
                      rotate_left
                      · (intro w'' _; go_simp; try with_reducible rfl)
                      change wpAnyU _ _ _ _ _ _ _ _ (Act.put _ (some 115) _) _
                      try simp only [Act.put, List.setIfInBounds_toArray, List.set_cons_zero, List.set_cons_succ]
                      refine wpAnyU_ready (rs := [12]) (by kernel_rfl) (by simp) ?_
                      refine AllReadyU.last rfl (by rfl) (fun Kn hKn => ?_) AllReadyU.nil
                      go_simp
                      have c0 := (blk_cell HRY.out 1).trans rfl
                      have f0 := blk_free HRY.out 1
                      go_simp
                      refine hKn.out _ _ ?_
                      clear hKn Kn
                      try simp only [Act.put, List.setIfInBounds_toArray, List.set_cons_zero, List.set_cons_succ]
                      refine wpAnyU_done (by kernel_rfl) ?_ _
                      go_wp2_with fail
                      refine ⟨?_, by simp [RowKit.intOf]; omega⟩
                      repeat apply Exists.intro
                      refine ⟨?_, rfl⟩
                      refine ⟨k + 1, by omega, by go_num, Lib.hid ⟨?_, ?_⟩⟩
                      · rw [HRP.out]
                        refine ⟨?_, ?_, ?_⟩
                        · refine Keep.trans HA8.out.keep (Keep.trans (Keep.mono HW4.out.1 (fun b e => .inr (.inr (by have h1 := HT6.out; have h2 := HA8.out.keep.size; rcases e with e | e <;> omega)))) (Keep.trans (keep_draw _ wi) (Keep.trans (Keep.mono HKF.out (fun _ e => e.elim)) (Keep.trans (Keep.mono HKZ.out (fun _ e => .inl e)) (Keep.trans (keep_draw _ wz) ?_)))))
                          rw [HWY.out]
                          exact keep_setF wy (.inr (.inl rfl)) 1 _
                        · exact ((keep_set (Keep.refl (fun b => b = gL + 1) wy) 1 _).block gL (by rw [← HWY.out]; exact blk_lt' HLZ.out) (by omega)).trans (by rw [← HWY.out]; exact HLZ.out)
                        · refine (blk_set HRY.out 1 _).trans ?_
                          have hmm : (if (fv : Int) + 1 - n > sk.2 then (fv : Int) + 1 - n else sk.2) = max sk.2 ((fv : Int) + 1 - n) := by split <;> omega
                          first | rfl | (rw [← hmm]; rfl)
                      · show AInv _ _ _ _ (stepP _ _ _ _ _ _).1
                        rw [HSKE.out]
                        exact HW3.out.2.step hfew HKN.out T.spans n
            · have hb1 : decide (k < N) = false := by simpa using hlt
              obtain rfl : N = k := by omega
              clear hsk
              go_wp2_with fail
              exact ⟨⟨1, by omega, rfl, Lib.hid ⟨by have h9 := HW3.out.1; rw [← HSKE.out] at h9; exact h9, fun e => by omega, fun e => by have h9 := HW3.out.2; rw [← HSKE.out] at h9; exact h9.second⟩⟩, by simp [RowKit.intOf]⟩
        · have HI := Lib.hid (show AInv T.on N false 0 (runP T.spans T.on n true (List.replicate N (-1), 0) N).1 from HW2.out.2.2 rfl)
          have HA2 := Lib.hid (show AL w6 gL (gL + 1) N n (runP T.spans T.on n true (List.replicate N (-1), 0) N) wo from HW2.out.1)
          clear HW2
          have b0 := (blk_cell ((HA2.out.keep.block gB (blk_lt' HBO.out) (by have := blk_lt' HBO.out; have := HGB.out; omega)).trans HBO.out) 1).trans rfl
          have d2 := (blk_cell ((HA2.out.keep.block q (by have := blk_lt' HBO.out; have := HGB.out; have := HTq.out; omega) (by have := blk_lt' HBO.out; have := HGB.out; have := HTq.out; omega)).trans HBq.out) 2).trans rfl
          go_wp2_with fail
          clear b0 d2
          go_loopw [58] (fun i wr => ∃ k : Nat, k ≤ N ∧ i = .int .i64 (k : Int) ∧ Hid (AL w6 gL (gL + 1) N n (runP T.spans T.on n false (runP T.spans T.on n true (List.replicate N (-1), 0) N) k) wr ∧ AInv T.on N false k (runP T.spans T.on n false (runP T.spans T.on n true (List.replicate N (-1), 0) N) k).1)) (fun i _ => N + 1 - (RowKit.intOf i).toNat)
          case atStart => exact ⟨0, Nat.zero_le _, rfl, Lib.hid ⟨HA2.out, HI.out⟩⟩
          case round =>
            obtain ⟨k, hk, rfl, HW3⟩ := hrel
            obtain ⟨wo, rfl⟩ : ∃ wo : World, wo = wr := ⟨_, rfl⟩
            obtain ⟨sk, hsk⟩ : ∃ s, (runP T.spans T.on n false (runP T.spans T.on n true (List.replicate N (-1), 0) N) k) = s := ⟨_, rfl⟩
            have HSKE := Lib.hid hsk
            rw [hsk] at HW3
            by_cases hlt : k < N
            · have hb1 : decide (k < N) = true := by simpa using hlt
              have HKL := Lib.hid (show k < T.ins.length by rw [HN.out]; exact hlt)
              have HSo := Lib.hid (show Since w3.heap.size w3 wo from Keep.trans HS6.out (Keep.mono HW3.out.1.keep (fun b e => by have := HGL.out; have := HS6.out.size; omega)))
              have HTo := Lib.hid (HT3.out.since HSo.out)
              obtain ⟨g, rfl, _, hx, hm, hc⟩ := HTo.out.cellsI HKL.out
              obtain ⟨r, hrr⟩ : ∃ r, R.getD k RI.dflt = r := ⟨_, rfl⟩
              rw [hrr] at hx hc
              obtain ⟨⟨op, a, b, c, nn, args, kk, kn, ks, names, pf, pl, ex, once⟩, A2, ca2, N2, cn2⟩ := r
              have z0 : wo.cell? ⟨g, k * 14, none⟩ = some (.int .i64 op) := (hc 0 (by omega)).trans rfl
              have z1 : wo.cell? ⟨g, k * 14 + 1, none⟩ = some (.int .i64 a) := (hc 1 (by omega)).trans rfl
              have z2 : wo.cell? ⟨g, k * 14 + 2, none⟩ = some (.int .i64 b) := (hc 2 (by omega)).trans rfl
              have z3 : wo.cell? ⟨g, k * 14 + 3, none⟩ = some (.int .i64 c) := (hc 3 (by omega)).trans rfl
              have z4 : wo.cell? ⟨g, k * 14 + 4, none⟩ = some (.int .i64 nn) := (hc 4 (by omega)).trans rfl
              have z5 : wo.cell? ⟨g, k * 14 + 5, none⟩ = some (.slice A2 args.length ca2) := (hc 5 (by omega)).trans rfl
              have z6 : wo.cell? ⟨g, k * 14 + 6, none⟩ = some (.int .i64 kk) := (hc 6 (by omega)).trans rfl
              have z7 : wo.cell? ⟨g, k * 14 + 7, none⟩ = some (.int .i64 kn) := (hc 7 (by omega)).trans rfl
              have z8 : wo.cell? ⟨g, k * 14 + 8, none⟩ = some (.string (sb ks)) := (hc 8 (by omega)).trans rfl
              have z9 : wo.cell? ⟨g, k * 14 + 9, none⟩ = some (.slice N2 names.length cn2) := (hc 9 (by omega)).trans rfl
              have z10 : wo.cell? ⟨g, k * 14 + 10, none⟩ = some (.int .i64 pf) := (hc 10 (by omega)).trans rfl
              have z11 : wo.cell? ⟨g, k * 14 + 11, none⟩ = some (.int .i64 pl) := (hc 11 (by omega)).trans rfl
              have z12 : wo.cell? ⟨g, k * 14 + 12, none⟩ = some (.int .i64 ex) := (hc 12 (by omega)).trans rfl
              have z13 : wo.cell? ⟨g, k * 14 + 13, none⟩ = some (.bool once) := (hc 13 (by omega)).trans rfl
              have HX := Lib.hid hx
              clear hrr hm hc hx hsk
              go_upto_region 19 with (fail)
              have hblk := heap_alloc_new wo (.cells #[.int .i64 op, .int .i64 a, .int .i64 b, .int .i64 c, .int .i64 nn, .slice A2 args.length ca2, .int .i64 kk, .int .i64 kn, .string (sb ks), .slice N2 names.length cn2, .int .i64 pf, .int .i64 pl, .int .i64 ex, .bool once] 60)
              have hK7 := (Keep.refl (fun _ => False) wo).alloc' (.cells #[.int .i64 op, .int .i64 a, .int .i64 b, .int .i64 c, .int .i64 nn, .slice A2 args.length ca2, .int .i64 kk, .int .i64 kn, .string (sb ks), .slice N2 names.length cn2, .int .i64 pf, .int .i64 pl, .int .i64 ex, .bool once] 60)
              obtain ⟨bi, hbi⟩ : ∃ bb, wo.heap.size = bb := ⟨_, rfl⟩
              obtain ⟨w7, hw7⟩ : ∃ w7 : World, wo.alloc (.cells #[.int .i64 op, .int .i64 a, .int .i64 b, .int .i64 c, .int .i64 nn, .slice A2 args.length ca2, .int .i64 kk, .int .i64 kn, .string (sb ks), .slice N2 names.length cn2, .int .i64 pf, .int .i64 pl, .int .i64 ex, .bool once] 60) = w7 := ⟨_, rfl⟩
              rw [hw7] at hblk hK7
              rw [hbi] at hblk
              rw [hw7, hbi]
              have HBI := Lib.hid hblk
              have HA7 := Lib.hid (HW3.out.1.quiet hK7)
              have HS7 := Lib.hid (Keep.trans HSo.out (Since.of hK7))
              have y13 := (blk_cell hblk 13).trans rfl
              have hsp := (HS7.out.block gS (blk_lt' HSP.out) (Nat.not_le_of_lt (blk_lt' HSP.out))).trans HSP.out
              have HSP7 := Lib.hid hsp
              have hrl := row2_at T.spans k (by unfold TR.spans; rw [List.length_map, List.length_range]; exact HKL.out)
              obtain ⟨⟨sx, sy⟩, hsxy⟩ : ∃ s, T.spans.getD k (0, 0) = s := ⟨_, rfl⟩
              rw [hsxy] at hrl
              have s0 := (blk_cell hsp (k * 2)).trans (List.getElem?_toArray.trans hrl.1)
              have s1 := (blk_cell hsp (k * 2 + 1)).trans (List.getElem?_toArray.trans hrl.2)
              have HNW := Lib.hid (show NB w7 from (HN2.out.since HK3.out (by have := HN2.out.pos; omega)).since HS7.out (by have := blk_lt' HSP.out; have := HN2.out.pos; have := HK3.out.size; omega))
              have n0 := HNW.out.c0
              have n1 := HNW.out.c1
              have e1 := fun W => eq_pair sx sy (-1) (-1) W
              have HXY := Lib.hid hsxy
              have HON := Lib.hid (show T.on k = once from by unfold TR.on; rw [← HX.out])
              have hkS : decide (k < N) = true := hb1
              obtain ⟨bq, hbq⟩ : ∃ bq, (sx == -1 && sy == -1) = bq := ⟨_, rfl⟩
              rw [hbq] at e1
              have HBQ := Lib.hid hbq
              clear hblk hK7 hbi hw7 hsp hrl hsxy hbq z0 z1 z2 z3 z4 z5 z6 z7 z8 z9 z10 z11 z12 z13
              cases bq with
              | true =>
                have HSK := Lib.hid (show runP T.spans T.on n false (runP T.spans T.on n true (List.replicate N (-1), 0) N) (k + 1) = sk from by
                  show stepP _ _ _ _ _ _ = _
                  rw [HSKE.out]
                  unfold stepP
                  exact if_pos (.inl (by rw [HXY.out]; have h9 := HBQ.out; simp at h9; rw [h9.1, h9.2])))
                go_quiet (fail)
                go_wp2_with fail
                exact ⟨⟨k + 1, by omega, by go_num, Lib.hid ⟨by rw [HSK.out]; exact HA7.out.quiet (keep_drewN _ _ _), by rw [HSK.out]; exact HW3.out.2.skip⟩⟩, by simp [RowKit.intOf]; omega⟩
              | false =>
                cases once with
                | true =>
                  have HSK := Lib.hid (show runP T.spans T.on n false (runP T.spans T.on n true (List.replicate N (-1), 0) N) (k + 1) = sk from by
                    show stepP _ _ _ _ _ _ = _
                    rw [HSKE.out]
                    unfold stepP
                    exact if_pos (.inr (by rw [HON.out]; decide)))
                  go_quiet (fail)
                  go_wp2_with fail
                  exact ⟨⟨k + 1, by omega, by go_num, Lib.hid ⟨by rw [HSK.out]; exact HA7.out.quiet (keep_drewN _ _ _), by rw [HSK.out]; exact HW3.out.2.skip⟩⟩, by simp [RowKit.intOf]; omega⟩
                | false =>
                  go_quiet (fail)
                  go_upto_region 21 with (fail)
                  have hbt := heap_alloc_new (w7.drewN nq) (.cells #[.int .u64 0, .int .u64 0, .int .u64 0, .int .u64 0] 71)
                  have hK8 : Keep (fun _ => False) w7 ((w7.drewN nq).alloc (.cells #[.int .u64 0, .int .u64 0, .int .u64 0, .int .u64 0] 71)) := (keep_drewN (fun _ => False) w7 nq).alloc' _
                  obtain ⟨w8, hw8⟩ : ∃ W : World, (w7.drewN nq).alloc (.cells #[.int .u64 0, .int .u64 0, .int .u64 0, .int .u64 0] 71) = W := ⟨_, rfl⟩
                  obtain ⟨bT, hbT⟩ : ∃ b, w7.heap.size = b := ⟨_, rfl⟩
                  rw [hw8] at hbt hK8
                  rw [show (w7.drewN nq).heap.size = bT from hbT] at hbt
                  rw [hw8]
                  try simp only [World.size_drewN]
                  try rw [hbT]
                  have HBT := Lib.hid hbt
                  have HA8 := Lib.hid (HA7.out.quiet hK8)
                  have HT6 := Lib.hid (show w6.heap.size ≤ bT by rw [← hbT]; exact HA7.out.keep.size)
                  have HTl := Lib.hid (show gL + 1 < bT ∧ gS < bT from ⟨by rw [← hbT]; exact blk_lt' HA7.out.reg, by rw [← hbT]; exact blk_lt' HSP7.out⟩)
                  have HSP8 := Lib.hid ((hK8.block gS (blk_lt' HSP7.out) id).trans HSP7.out)
                  have HS8 := Lib.hid (Keep.trans HS7.out (Since.of hK8))
                  have hL8 := HA8.out.loc
                  have hR8 := HA8.out.reg
                  have HR8 := Lib.hid hR8
                  have HL8 := Lib.hid hL8
                  have HLN := Lib.hid HW3.out.2.len
                  have HXL := Lib.hid (HW3.out.2.lt60 hfew)
                  have r2 := (blk_cell hR8 2).trans rfl
                  clear hbt hK8 hw8 hbT hL8 hR8 s0 s1 n0 n1 e1 y13
                  go_wp2_with fail
                  clear r2
                  go_loopw [15, 16, 78] (fun _ _ i wr => ∃ j : Nat, j ≤ N ∧ i = .int .i64 (j : Int) ∧ Hid (Keep (fun b => b = bT ∨ w8.heap.size ≤ b) w8 wr ∧ wr.heap[bT]? = some (.cells #[.int .u64 ((usedOf T.spans sk.1 k j : Nat) : Int), .int .u64 0, .int .u64 0, .int .u64 0] 71 (0, 0)))) (fun _ _ i _ => N + 1 - (RowKit.intOf i).toNat)
                  case atStart => exact ⟨0, Nat.zero_le _, rfl, Lib.hid ⟨Keep.refl _ _, HBT.out⟩⟩
                  case round =>
                    obtain ⟨j, hj, rfl, HW4⟩ := hrel
                    obtain ⟨wi, rfl⟩ : ∃ wi : World, wi = wr := ⟨_, rfl⟩
                    have hl := (HW4.out.1.block gL (blk_lt' HL8.out) (by have := HTl.out; have := blk_lt' HL8.out; omega)).trans HL8.out
                    have HLI := Lib.hid hl
                    have HRI := Lib.hid ((HW4.out.1.block (gL + 1) (blk_lt' HR8.out) (by have := HTl.out; have := blk_lt' HR8.out; omega)).trans HR8.out)
                    have HSI := Lib.hid ((HW4.out.1.block gS (blk_lt' HSP8.out) (by have := HTl.out; have := blk_lt' HSP8.out; omega)).trans HSP8.out)
                    have HSW := Lib.hid (show Since w3.heap.size w3 wi from Keep.trans HS8.out (Keep.mono HW4.out.1 (fun b e => by have := HTl.out; have := HGL.out; have := HS8.out.size; omega)))
                    have HNI := Lib.hid (show NB wi.drew from ((HN2.out.since HK3.out (by have := HN2.out.pos; omega)).since HSW.out (by have := blk_lt' HSP.out; have := HN2.out.pos; have := HK3.out.size; omega)).keep (keep_draw (fun _ => False) wi) id)
                    by_cases hjt : j < N
                    · have hb2 : decide (j < N) = true := by simpa using hjt
                      have lj := ints_cell hl (j := j) (by rw [HLN.out]; exact hjt) (-1)
                      obtain ⟨v, hv⟩ : ∃ v, sk.1.getD j (-1) = v := ⟨_, rfl⟩
                      rw [hv] at lj
                      have HV := Lib.hid hv
                      by_cases hv0 : v < 0
                      · have HUE := Lib.hid (show usedOf T.spans sk.1 k (j + 1) = usedOf T.spans sk.1 k j from by
                          rw [usedOf]
                          exact if_neg (fun h => by rw [hv] at h; omega))
                        have hd0 : decide (0 ≤ v) = false := by simp; omega
                        clear hv hl
                        go_wp2_with fail
                        go_quiet (fail)
                        go_wp2_with fail
                        exact ⟨⟨j + 1, by omega, by go_num, Lib.hid ⟨Keep.trans HW4.out.1 (keep_drewN _ _ _), by rw [HUE.out]; exact HW4.out.2⟩⟩, by simp [RowKit.intOf]; omega⟩
                      · obtain ⟨vn, rfl⟩ : ∃ vn : Nat, v = (vn : Int) := ⟨v.toNat, by omega⟩
                        have hv60 : vn < 60 := by have := HXL.out j; rw [hv] at this; omega
                        have hlj := row2_at T.spans j (by unfold TR.spans; rw [List.length_map, List.length_range, HN.out]; exact hjt)
                        have hlk := row2_at T.spans k (by unfold TR.spans; rw [List.length_map, List.length_range]; exact HKL.out)
                        obtain ⟨⟨tx, ty⟩, htj⟩ : ∃ s, T.spans.getD j (0, 0) = s := ⟨_, rfl⟩
                        rw [htj] at hlj
                        rw [HXY.out] at hlk
                        have HTJ := Lib.hid (And.intro (List.getElem?_toArray.trans hlj.1) (List.getElem?_toArray.trans hlj.2))
                        have HTK := Lib.hid (And.intro (List.getElem?_toArray.trans hlk.1) (List.getElem?_toArray.trans hlk.2))
                        obtain ⟨cf, hcf⟩ : ∃ c, confl (tx, ty) (sx, sy) = c := ⟨_, rfl⟩
                        have HCF := Lib.hid (fun W (hn : NB W) => conflict_any tx ty sx sy hn)
                        rw [hcf] at HCF
                        have HCV := Lib.hid hcf
                        have HTV := Lib.hid htj
                        clear hlj hlk htj hcf hl hv
                        cases cf with
                        | true =>
                          have HUE := Lib.hid (show usedOf T.spans sk.1 k (j + 1) = usedOf T.spans sk.1 k j ||| 2 ^ vn from by
                            rw [usedOf, HV.out, if_pos ⟨by omega, by rw [HTV.out, HXY.out]; exact HCV.out⟩]
                            rfl)
                          go_upto_region 24 with (fail)
                          refine wp_region_drewU (S := (fun w' => Hid (w'.heap[gS]? = some (.cells (row2 T.spans).toArray 34 (0, 0))))) (D := []) (by kernel_rfl) (by exact Lib.hid HSI.out) (fun hH => ?_)
                          refine wpAnyU_take (i := 0) (v := ?_) rfl (by kernel_rfl) (by kernel_rfl) (by kernel_rfl) (by kernel_rfl) (fun _ _ _ h => h) (Or.inl ⟨by rfl, ?_⟩) hH ?_
                          rotate_left
                          · (intro w'' hSw; (try dsimp only at hSw); go_simp; try with_reducible rfl)
                          change wpAnyU _ _ _ _ _ _ _ _ (Act.put _ (some 83) _) _
                          try simp only [Act.put, List.setIfInBounds_toArray, List.set_cons_zero, List.set_cons_succ]
                          refine wpAnyU_take (i := 1) (v := ?_) rfl (by kernel_rfl) (by kernel_rfl) (by kernel_rfl) (by kernel_rfl) (fun _ _ _ h => h) (Or.inl ⟨by rfl, ?_⟩) hH ?_
                          rotate_left
                          · (intro w'' hSw; (try dsimp only at hSw); go_simp; try with_reducible rfl)
                          change wpAnyU _ _ _ _ _ _ _ _ (Act.put _ (some 84) _) _
                          try simp only [Act.put, List.setIfInBounds_toArray, List.set_cons_zero, List.set_cons_succ]
                          refine wpAnyU_take (i := 2) (v := ?_) rfl (by kernel_rfl) (by kernel_rfl) (by kernel_rfl) (by kernel_rfl) (fun _ _ _ h => h) (Or.inl ⟨by rfl, ?_⟩) hH ?_
                          rotate_left
                          · (intro w'' hSw; (try dsimp only at hSw); go_simp; try with_reducible rfl)
                          change wpAnyU _ _ _ _ _ _ _ _ (Act.put _ (some 85) _) _
                          try simp only [Act.put, List.setIfInBounds_toArray, List.set_cons_zero, List.set_cons_succ]
                          refine wpAnyU_take (i := 3) (v := ?_) rfl (by kernel_rfl) (by kernel_rfl) (by kernel_rfl) (by kernel_rfl) (fun _ _ _ h => h) (Or.inl ⟨by rfl, ?_⟩) hH ?_
                          rotate_left
                          · (intro w'' hSw; (try dsimp only at hSw); go_simp; try with_reducible rfl)
                          change wpAnyU _ _ _ _ _ _ _ _ (Act.put _ (some 86) _) _
                          try simp only [Act.put, List.setIfInBounds_toArray, List.set_cons_zero, List.set_cons_succ]
                          refine wpAnyU_take (i := 4) (v := ?_) rfl (by kernel_rfl) (by kernel_rfl) (by kernel_rfl) (by kernel_rfl) (fun _ _ _ h => h) (Or.inl ⟨by rfl, ?_⟩) hH ?_
                          rotate_left
                          · (intro w'' hSw; (try dsimp only at hSw); go_simp; try with_reducible rfl)
                          change wpAnyU _ _ _ _ _ _ _ _ (Act.put _ (some 87) _) _
                          try simp only [Act.put, List.setIfInBounds_toArray, List.set_cons_zero, List.set_cons_succ]
                          refine wpAnyU_take (i := 5) (v := ?_) rfl (by kernel_rfl) (by kernel_rfl) (by kernel_rfl) (by kernel_rfl) (fun _ _ _ h => h) (Or.inl ⟨by rfl, ?_⟩) hH ?_
                          rotate_left
                          · (intro w'' hSw; (try dsimp only at hSw); go_simp; try with_reducible rfl)
                          change wpAnyU _ _ _ _ _ _ _ _ (Act.put _ (some 88) _) _
                          try simp only [Act.put, List.setIfInBounds_toArray, List.set_cons_zero, List.set_cons_succ]
                          refine wpAnyU_take (i := 6) (v := ?_) rfl (by kernel_rfl) (by kernel_rfl) (by kernel_rfl) (by kernel_rfl) (fun _ _ _ h => h) (Or.inl ⟨by rfl, ?_⟩) hH ?_
                          rotate_left
                          · (intro w'' hSw; (have t0 := (blk_cell hSw.out (j * 2)).trans HTJ.out.1; have t1 := (blk_cell hSw.out (j * 2 + 1)).trans HTJ.out.2); go_simp; try with_reducible rfl)
                          change wpAnyU _ _ _ _ _ _ _ _ (Act.put _ (some 89) _) _
                          try simp only [Act.put, List.setIfInBounds_toArray, List.set_cons_zero, List.set_cons_succ]
                          refine wpAnyU_take (i := 7) (v := ?_) rfl (by kernel_rfl) (by kernel_rfl) (by kernel_rfl) (by kernel_rfl) (fun _ _ _ h => h) (Or.inl ⟨by rfl, ?_⟩) hH ?_
                          rotate_left
                          · (intro w'' hSw; (try dsimp only at hSw); go_simp; try with_reducible rfl)
                          change wpAnyU _ _ _ _ _ _ _ _ (Act.put _ (some 90) _) _
                          try simp only [Act.put, List.setIfInBounds_toArray, List.set_cons_zero, List.set_cons_succ]
                          refine wpAnyU_take (i := 8) (v := ?_) rfl (by kernel_rfl) (by kernel_rfl) (by kernel_rfl) (by kernel_rfl) (fun _ _ _ h => h) (Or.inl ⟨by rfl, ?_⟩) hH ?_
                          rotate_left
                          · (intro w'' hSw; (try dsimp only at hSw); go_simp; try with_reducible rfl)
                          change wpAnyU _ _ _ _ _ _ _ _ (Act.put _ (some 91) _) _
                          try simp only [Act.put, List.setIfInBounds_toArray, List.set_cons_zero, List.set_cons_succ]
                          refine wpAnyU_take (i := 9) (v := ?_) rfl (by kernel_rfl) (by kernel_rfl) (by kernel_rfl) (by kernel_rfl) (fun _ _ _ h => h) (Or.inl ⟨by rfl, ?_⟩) hH ?_
                          rotate_left
                          · (intro w'' hSw; (try dsimp only at hSw); go_simp; try with_reducible rfl)
                          change wpAnyU _ _ _ _ _ _ _ _ (Act.put _ (some 92) _) _
                          try simp only [Act.put, List.setIfInBounds_toArray, List.set_cons_zero, List.set_cons_succ]
                          refine wpAnyU_take (i := 10) (v := ?_) rfl (by kernel_rfl) (by kernel_rfl) (by kernel_rfl) (by kernel_rfl) (fun _ _ _ h => h) (Or.inl ⟨by rfl, ?_⟩) hH ?_
                          rotate_left
                          · (intro w'' hSw; (have t0 := (blk_cell hSw.out (k * 2)).trans HTK.out.1; have t1 := (blk_cell hSw.out (k * 2 + 1)).trans HTK.out.2); go_simp; try with_reducible rfl)
                          change wpAnyU _ _ _ _ _ _ _ _ (Act.put _ (some 93) _) _
                          try simp only [Act.put, List.setIfInBounds_toArray, List.set_cons_zero, List.set_cons_succ]
                          refine wpAnyU_ready (rs := [11]) (by kernel_rfl) (by simp) ?_
                          refine AllReadyU.cons rfl (fun Kn hKn => ?_) AllReadyU.nil
                          go_simp
                          go_at_call 28
                          (with_reducible refine (HCF.out _ HNI.out).mono ?_)
                          rintro ee wq ⟨rfl, hkq⟩
                          have HKQ := Lib.hid hkq
                          clear hkq
                          refine hKn.out _ _ ?_ (fun hH => ?_)
                          · (exact Lib.hid ((HKQ.out.block gS (blk_lt' hH.out) id).trans hH.out))
                          clear hKn Kn
                          try simp only [Act.put, List.setIfInBounds_toArray, List.set_cons_zero, List.set_cons_succ]
                          refine wpAnyU_take (i := 12) (v := ?_) rfl (by kernel_rfl) (by kernel_rfl) (by kernel_rfl) (by kernel_rfl) (fun _ _ _ h => h) (Or.inl ⟨by rfl, ?_⟩) hH ?_
                          rotate_left
                          · (intro w'' hSw; (try dsimp only at hSw); go_simp; try with_reducible rfl)
                          change wpAnyU _ _ _ _ _ _ _ _ (Act.put _ (some 95) _) _
                          try simp only [Act.put, List.setIfInBounds_toArray, List.set_cons_zero, List.set_cons_succ]
                          refine wpAnyU_done (by kernel_rfl) ?_ _
                          have hbq := (HKQ.out.block bT (blk_lt' HW4.out.2) id).trans HW4.out.2
                          have HAD := Lib.hid (tadd_any (n := vn) (x := usedOf T.spans sk.1 k j) (Nat.lt_trans (usedOf_lt T.spans sk.1 k HXL.out j) (by decide)) (by omega) hbq)
                          clear hbq
                          go_wp2_with fail
                          ((with_reducible refine HAD.out.mono ?_); rintro ee wa ⟨rfl, hka, hba⟩)
                          have HKA2 := Lib.hid hka
                          have HBA := Lib.hid hba
                          clear hka hba
                          go_wp2_with fail
                          exact ⟨⟨j + 1, by omega, by go_num, Lib.hid ⟨Keep.trans HW4.out.1 (Keep.trans (keep_draw _ wi) (Keep.trans (Keep.mono HKQ.out (fun _ e => e.elim)) (Keep.mono HKA2.out (fun _ => .inl)))), by rw [HUE.out]; exact HBA.out⟩⟩, by simp [RowKit.intOf]; omega⟩
                        | false =>
                          have HUE := Lib.hid (show usedOf T.spans sk.1 k (j + 1) = usedOf T.spans sk.1 k j from by
                            rw [usedOf]
                            exact if_neg (fun h => by rw [HTV.out, HXY.out, HCV.out] at h; exact Bool.noConfusion h.2))
                          go_upto_region 24 with (fail)
                          refine wp_region_drewU (S := (fun w' => Hid (w'.heap[gS]? = some (.cells (row2 T.spans).toArray 34 (0, 0))))) (D := []) (by kernel_rfl) (by exact Lib.hid HSI.out) (fun hH => ?_)
                          refine wpAnyU_take (i := 0) (v := ?_) rfl (by kernel_rfl) (by kernel_rfl) (by kernel_rfl) (by kernel_rfl) (fun _ _ _ h => h) (Or.inl ⟨by rfl, ?_⟩) hH ?_
                          rotate_left
                          · (intro w'' hSw; (try dsimp only at hSw); go_simp; try with_reducible rfl)
                          change wpAnyU _ _ _ _ _ _ _ _ (Act.put _ (some 83) _) _
                          try simp only [Act.put, List.setIfInBounds_toArray, List.set_cons_zero, List.set_cons_succ]
                          refine wpAnyU_take (i := 1) (v := ?_) rfl (by kernel_rfl) (by kernel_rfl) (by kernel_rfl) (by kernel_rfl) (fun _ _ _ h => h) (Or.inl ⟨by rfl, ?_⟩) hH ?_
                          rotate_left
                          · (intro w'' hSw; (try dsimp only at hSw); go_simp; try with_reducible rfl)
                          change wpAnyU _ _ _ _ _ _ _ _ (Act.put _ (some 84) _) _
                          try simp only [Act.put, List.setIfInBounds_toArray, List.set_cons_zero, List.set_cons_succ]
                          refine wpAnyU_take (i := 2) (v := ?_) rfl (by kernel_rfl) (by kernel_rfl) (by kernel_rfl) (by kernel_rfl) (fun _ _ _ h => h) (Or.inl ⟨by rfl, ?_⟩) hH ?_
                          rotate_left
                          · (intro w'' hSw; (try dsimp only at hSw); go_simp; try with_reducible rfl)
                          change wpAnyU _ _ _ _ _ _ _ _ (Act.put _ (some 85) _) _
                          try simp only [Act.put, List.setIfInBounds_toArray, List.set_cons_zero, List.set_cons_succ]
                          refine wpAnyU_take (i := 3) (v := ?_) rfl (by kernel_rfl) (by kernel_rfl) (by kernel_rfl) (by kernel_rfl) (fun _ _ _ h => h) (Or.inl ⟨by rfl, ?_⟩) hH ?_
                          rotate_left
                          · (intro w'' hSw; (try dsimp only at hSw); go_simp; try with_reducible rfl)
                          change wpAnyU _ _ _ _ _ _ _ _ (Act.put _ (some 86) _) _
                          try simp only [Act.put, List.setIfInBounds_toArray, List.set_cons_zero, List.set_cons_succ]
                          refine wpAnyU_take (i := 4) (v := ?_) rfl (by kernel_rfl) (by kernel_rfl) (by kernel_rfl) (by kernel_rfl) (fun _ _ _ h => h) (Or.inl ⟨by rfl, ?_⟩) hH ?_
                          rotate_left
                          · (intro w'' hSw; (try dsimp only at hSw); go_simp; try with_reducible rfl)
                          change wpAnyU _ _ _ _ _ _ _ _ (Act.put _ (some 87) _) _
                          try simp only [Act.put, List.setIfInBounds_toArray, List.set_cons_zero, List.set_cons_succ]
                          refine wpAnyU_take (i := 5) (v := ?_) rfl (by kernel_rfl) (by kernel_rfl) (by kernel_rfl) (by kernel_rfl) (fun _ _ _ h => h) (Or.inl ⟨by rfl, ?_⟩) hH ?_
                          rotate_left
                          · (intro w'' hSw; (try dsimp only at hSw); go_simp; try with_reducible rfl)
                          change wpAnyU _ _ _ _ _ _ _ _ (Act.put _ (some 88) _) _
                          try simp only [Act.put, List.setIfInBounds_toArray, List.set_cons_zero, List.set_cons_succ]
                          refine wpAnyU_take (i := 6) (v := ?_) rfl (by kernel_rfl) (by kernel_rfl) (by kernel_rfl) (by kernel_rfl) (fun _ _ _ h => h) (Or.inl ⟨by rfl, ?_⟩) hH ?_
                          rotate_left
                          · (intro w'' hSw; (have t0 := (blk_cell hSw.out (j * 2)).trans HTJ.out.1; have t1 := (blk_cell hSw.out (j * 2 + 1)).trans HTJ.out.2); go_simp; try with_reducible rfl)
                          change wpAnyU _ _ _ _ _ _ _ _ (Act.put _ (some 89) _) _
                          try simp only [Act.put, List.setIfInBounds_toArray, List.set_cons_zero, List.set_cons_succ]
                          refine wpAnyU_take (i := 7) (v := ?_) rfl (by kernel_rfl) (by kernel_rfl) (by kernel_rfl) (by kernel_rfl) (fun _ _ _ h => h) (Or.inl ⟨by rfl, ?_⟩) hH ?_
                          rotate_left
                          · (intro w'' hSw; (try dsimp only at hSw); go_simp; try with_reducible rfl)
                          change wpAnyU _ _ _ _ _ _ _ _ (Act.put _ (some 90) _) _
                          try simp only [Act.put, List.setIfInBounds_toArray, List.set_cons_zero, List.set_cons_succ]
                          refine wpAnyU_take (i := 8) (v := ?_) rfl (by kernel_rfl) (by kernel_rfl) (by kernel_rfl) (by kernel_rfl) (fun _ _ _ h => h) (Or.inl ⟨by rfl, ?_⟩) hH ?_
                          rotate_left
                          · (intro w'' hSw; (try dsimp only at hSw); go_simp; try with_reducible rfl)
                          change wpAnyU _ _ _ _ _ _ _ _ (Act.put _ (some 91) _) _
                          try simp only [Act.put, List.setIfInBounds_toArray, List.set_cons_zero, List.set_cons_succ]
                          refine wpAnyU_take (i := 9) (v := ?_) rfl (by kernel_rfl) (by kernel_rfl) (by kernel_rfl) (by kernel_rfl) (fun _ _ _ h => h) (Or.inl ⟨by rfl, ?_⟩) hH ?_
                          rotate_left
                          · (intro w'' hSw; (try dsimp only at hSw); go_simp; try with_reducible rfl)
                          change wpAnyU _ _ _ _ _ _ _ _ (Act.put _ (some 92) _) _
                          try simp only [Act.put, List.setIfInBounds_toArray, List.set_cons_zero, List.set_cons_succ]
                          refine wpAnyU_take (i := 10) (v := ?_) rfl (by kernel_rfl) (by kernel_rfl) (by kernel_rfl) (by kernel_rfl) (fun _ _ _ h => h) (Or.inl ⟨by rfl, ?_⟩) hH ?_
                          rotate_left
                          · (intro w'' hSw; (have t0 := (blk_cell hSw.out (k * 2)).trans HTK.out.1; have t1 := (blk_cell hSw.out (k * 2 + 1)).trans HTK.out.2); go_simp; try with_reducible rfl)
                          change wpAnyU _ _ _ _ _ _ _ _ (Act.put _ (some 93) _) _
                          try simp only [Act.put, List.setIfInBounds_toArray, List.set_cons_zero, List.set_cons_succ]
                          refine wpAnyU_ready (rs := [11]) (by kernel_rfl) (by simp) ?_
                          refine AllReadyU.cons rfl (fun Kn hKn => ?_) AllReadyU.nil
                          go_simp
                          go_at_call 28
                          (with_reducible refine (HCF.out _ HNI.out).mono ?_)
                          rintro ee wq ⟨rfl, hkq⟩
                          have HKQ := Lib.hid hkq
                          clear hkq
                          refine hKn.out _ _ ?_ (fun hH => ?_)
                          · (exact Lib.hid ((HKQ.out.block gS (blk_lt' hH.out) id).trans hH.out))
                          clear hKn Kn
                          try simp only [Act.put, List.setIfInBounds_toArray, List.set_cons_zero, List.set_cons_succ]
                          refine wpAnyU_take (i := 12) (v := ?_) rfl (by kernel_rfl) (by kernel_rfl) (by kernel_rfl) (by kernel_rfl) (fun _ _ _ h => h) (Or.inl ⟨by rfl, ?_⟩) hH ?_
                          rotate_left
                          · (intro w'' hSw; (try dsimp only at hSw); go_simp; try with_reducible rfl)
                          change wpAnyU _ _ _ _ _ _ _ _ (Act.put _ (some 95) _) _
                          try simp only [Act.put, List.setIfInBounds_toArray, List.set_cons_zero, List.set_cons_succ]
                          refine wpAnyU_done (by kernel_rfl) ?_ _
                          go_wp2_with fail
                          exact ⟨⟨j + 1, by omega, by go_num, Lib.hid ⟨Keep.trans HW4.out.1 (Keep.trans (keep_draw _ wi) (Keep.mono HKQ.out (fun _ e => e.elim))), by rw [HUE.out]; exact (HKQ.out.block bT (blk_lt' HW4.out.2) id).trans HW4.out.2⟩⟩, by simp [RowKit.intOf]; omega⟩
                    · have hb2 : decide (j < N) = false := by simpa using hjt
                      obtain rfl : N = j := by omega
                      have HKN := Lib.hid hlt
                      have HTW := Lib.hid (show TBW wi.drew from ((((HTB.out.keep HK.out id).since HK2.out (by have := HTB.out.pos; have := HSZ.out; omega)).since HK3.out (by have := HTB.out.pos; have := HSZ.out; have := HK2.out.size; omega)).since HSW.out (by have := HTB.out.pos; have := HSZ.out; have := HK2.out.size; have := HK3.out.size; omega)).keep (keep_draw (fun _ => False) wi) id)
                      have HLD := Lib.hid (show wi.drew.heap[gL]? = _ from HLI.out)
                      have HFR := Lib.hid (tfree_any (x := usedOf T.spans sk.1 k N) (Nat.lt_trans (usedOf_lt T.spans sk.1 k HXL.out N) (by decide)) HTW.out (show wi.drew.heap[bT]? = _ from HW4.out.2))
                      obtain ⟨fv, hfv⟩ : ∃ fv, Lib.ctz 64 (18446744073709551615 ^^^ usedOf T.spans sk.1 k N) = fv := ⟨_, rfl⟩
                      have hf60 : fv ≤ 60 := by
                        have h1 := (HW3.out.2.free hfew T.spans k N).2.2
                        have h2 := List.countP_le_length (p := fun x : Int => decide (0 ≤ x)) (l := sk.1)
                        have h3 := HW3.out.2.len
                        unfold lowFree at h1
                        rw [hfv] at h1
                        omega
                      rw [hfv] at HFR
                      have HFV := Lib.hid hfv
                      have HRP := Lib.hid (show runP T.spans T.on n false (runP T.spans T.on n true (List.replicate N (-1), 0) N) (k + 1) = (sk.1.set k (fv : Int), max sk.2 ((fv : Int) + 1 - n)) from by
                        show stepP _ _ _ _ _ _ = _
                        rw [HSKE.out]
                        unfold stepP lowFree
                        rw [if_neg (fun h => h.elim (fun h => by
                          rw [HXY.out] at h
                          have h9 := HBQ.out
                          injection h with h1 h2
                          subst h1 h2
                          revert h9
                          decide) (fun h => h HON.out)), HLN.out, hfv])
                      clear hl hfv
                      go_upto_region 27 with (fail)
                      refine wp_region_drewU (S := (fun w' => Hid (w'.heap[gL + 1]? = some (.cells #[.int .i64 n, .int .i64 sk.2, .slice (some ⟨gL, 0, none⟩) N N] 36 (0, 0))))) (D := [4, 5]) (by kernel_rfl) (by exact Lib.hid HRI.out) (fun hH => ?_)
                      refine wpAnyU_take (i := 0) (v := ?_) rfl (by kernel_rfl) (by kernel_rfl) (by kernel_rfl) (by kernel_rfl) (fun _ _ _ h => h) (Or.inl ⟨by rfl, ?_⟩) hH ?_
                      rotate_left
                      · (intro w'' hSw; (try dsimp only at hSw); go_simp; try with_reducible rfl)
                      change wpAnyU _ _ _ _ _ _ _ _ (Act.put _ (some 99) _) _
                      try simp only [Act.put, List.setIfInBounds_toArray, List.set_cons_zero, List.set_cons_succ]
                      refine wpAnyU_take (i := 1) (v := ?_) rfl (by kernel_rfl) (by kernel_rfl) (by kernel_rfl) (by kernel_rfl) (fun _ _ _ h => h) (Or.inl ⟨by rfl, ?_⟩) hH ?_
                      rotate_left
                      · (intro w'' hSw; have r2 := (blk_cell hSw.out 2).trans rfl; go_simp; try with_reducible rfl)
                      change wpAnyU _ _ _ _ _ _ _ _ (Act.put _ (some 100) _) _
                      try simp only [Act.put, List.setIfInBounds_toArray, List.set_cons_zero, List.set_cons_succ]
                      refine wpAnyU_take (i := 2) (v := ?_) rfl (by kernel_rfl) (by kernel_rfl) (by kernel_rfl) (by kernel_rfl) (fun _ _ _ h => h) (Or.inl ⟨by rfl, ?_⟩) hH ?_
                      rotate_left
                      · (intro w'' hSw; (try dsimp only at hSw); go_simp; try with_reducible rfl)
                      change wpAnyU _ _ _ _ _ _ _ _ (Act.put _ (some 101) _) _
                      try simp only [Act.put, List.setIfInBounds_toArray, List.set_cons_zero, List.set_cons_succ]
                      refine wpAnyU_ready (rs := [3]) (by kernel_rfl) (by simp) ?_
                      refine AllReadyU.cons rfl (fun Kn hKn => ?_) AllReadyU.nil
                      go_simp
                      go_at_call 30
                      (with_reducible refine (HFR.out).mono ?_)
                      rintro ee wf ⟨rfl, hkf⟩
                      have HKF := Lib.hid hkf
                      have hlf := (hkf.block gL (blk_lt' HLD.out) id).trans HLD.out
                      have HLF := Lib.hid hlf
                      have g0 := ints_cell hlf (j := k) (by rw [HLN.out]; exact HKN.out) (-1)
                      have f0 := blk_free hlf k
                      clear hkf hlf
                      refine hKn.out _ _ ?_ (fun hH => ?_)
                      · (exact Lib.hid ((HKF.out.block (gL + 1) (blk_lt' hH.out) id).trans hH.out))
                      clear hKn Kn
                      try simp only [Act.put, List.setIfInBounds_toArray, List.set_cons_zero, List.set_cons_succ]
                      refine wpAnyU_pure (i := 4) (v := ?_) rfl (by kernel_rfl) (by kernel_rfl) (by kernel_rfl) (by rfl) (fun _ _ _ h => h) (Or.inl ⟨by rfl, ?_⟩) ?_
                      rotate_left
                      · (intro w'' _; go_simp; try with_reducible rfl)
                      change wpAnyU _ _ _ _ _ _ _ _ (Act.put _ (some 103) _) _
                      try simp only [Act.put, List.setIfInBounds_toArray, List.set_cons_zero, List.set_cons_succ]
                      refine wpAnyU_ready (rs := [5]) (by kernel_rfl) (by simp) ?_
                      refine AllReadyU.last rfl (by rfl) (fun Kn hKn => ?_) AllReadyU.nil
                      go_simp
                      refine hKn.out _ _ ?_
                      clear hKn Kn
                      try simp only [Act.put, List.setIfInBounds_toArray, List.set_cons_zero, List.set_cons_succ]
                      refine wpAnyU_done (by kernel_rfl) ?_ _
                      have HLZ := Lib.hid (ints_put HLF.out k (fv : Int))
                      have HRZ := Lib.hid (((keep_set (Keep.refl (fun b => b = gL) wf) k (.int .i64 (fv : Int))).block (gL + 1) (blk_lt' (((HKF.out.block (gL + 1) (blk_lt' HRI.out) id).trans HRI.out))) (by omega)).trans ((HKF.out.block (gL + 1) (blk_lt' HRI.out) id).trans HRI.out))
                      have HKZ := Lib.hid (keep_set (Keep.refl (fun b => b = gL) wf) k (.int .i64 (fv : Int)))
                      obtain ⟨wz, hwz⟩ : ∃ W : World, wf.setCell ⟨gL, k, none⟩ (.int .i64 (fv : Int)) = W := ⟨_, rfl⟩
                      rw [hwz] at HLZ HRZ HKZ
                      rw [hwz]
                      clear hwz g0 f0
                      go_upto_region 28 with (fail)
                      refine wp_region_drewU (S := (fun w' => Hid (w'.heap[gL + 1]? = some (.cells #[.int .i64 n, .int .i64 sk.2, .slice (some ⟨gL, 0, none⟩) N N] 36 (0, 0)) ∧ w'.heap[gL]? = some (.cells (ints (sk.1.set k (fv : Int))).toArray 3 (0, 0))))) (D := [11, 12]) (by kernel_rfl) (by exact Lib.hid ⟨HRZ.out, HLZ.out⟩) (fun hH => ?_)
                      have HRY := Lib.hid (show wz.drew.heap[gL + 1]? = _ from HRZ.out)
                      obtain ⟨wy, hwy⟩ : ∃ W : World, wz.drew = W := ⟨_, rfl⟩
                      rw [hwy] at hH HRY ⊢
                      have HWY := Lib.hid hwy
                      clear hwy
                      refine wpAnyU_take (i := 0) (v := ?_) rfl (by kernel_rfl) (by kernel_rfl) (by kernel_rfl) (by kernel_rfl) (fun _ _ _ h => h) (Or.inl ⟨by rfl, ?_⟩) hH ?_
                      rotate_left
                      · (intro w'' hSw; (try dsimp only at hSw); go_simp; try with_reducible rfl)
                      change wpAnyU _ _ _ _ _ _ _ _ (Act.put _ (some 104) _) _
                      try simp only [Act.put, List.setIfInBounds_toArray, List.set_cons_zero, List.set_cons_succ]
                      refine wpAnyU_take (i := 1) (v := ?_) rfl (by kernel_rfl) (by kernel_rfl) (by kernel_rfl) (by kernel_rfl) (fun _ _ _ h => h) (Or.inl ⟨by rfl, ?_⟩) hH ?_
                      rotate_left
                      · (intro w'' hSw; (have r1 := (blk_cell hSw.out.1 1).trans rfl); go_simp; try with_reducible rfl)
                      change wpAnyU _ _ _ _ _ _ _ _ (Act.put _ (some 105) _) _
                      try simp only [Act.put, List.setIfInBounds_toArray, List.set_cons_zero, List.set_cons_succ]
                      refine wpAnyU_take (i := 2) (v := ?_) rfl (by kernel_rfl) (by kernel_rfl) (by kernel_rfl) (by kernel_rfl) (fun _ _ _ h => h) (Or.inl ⟨by rfl, ?_⟩) hH ?_
                      rotate_left
                      · (intro w'' hSw; (try dsimp only at hSw); go_simp; try with_reducible rfl)
                      change wpAnyU _ _ _ _ _ _ _ _ (Act.put _ (some 106) _) _
                      try simp only [Act.put, List.setIfInBounds_toArray, List.set_cons_zero, List.set_cons_succ]
                      refine wpAnyU_take (i := 3) (v := ?_) rfl (by kernel_rfl) (by kernel_rfl) (by kernel_rfl) (by kernel_rfl) (fun _ _ _ h => h) (Or.inl ⟨by rfl, ?_⟩) hH ?_
                      rotate_left
                      · (intro w'' hSw; (have r2 := (blk_cell hSw.out.1 2).trans rfl); go_simp; try with_reducible rfl)
                      change wpAnyU _ _ _ _ _ _ _ _ (Act.put _ (some 107) _) _
                      try simp only [Act.put, List.setIfInBounds_toArray, List.set_cons_zero, List.set_cons_succ]
                      refine wpAnyU_take (i := 4) (v := ?_) rfl (by kernel_rfl) (by kernel_rfl) (by kernel_rfl) (by kernel_rfl) (fun _ _ _ h => h) (Or.inl ⟨by rfl, ?_⟩) hH ?_
                      rotate_left
                      · (intro w'' hSw; (try dsimp only at hSw); go_simp; try with_reducible rfl)
                      change wpAnyU _ _ _ _ _ _ _ _ (Act.put _ (some 108) _) _
                      try simp only [Act.put, List.setIfInBounds_toArray, List.set_cons_zero, List.set_cons_succ]
                      refine wpAnyU_take (i := 5) (v := ?_) rfl (by kernel_rfl) (by kernel_rfl) (by kernel_rfl) (by kernel_rfl) (fun _ _ _ h => h) (Or.inl ⟨by rfl, ?_⟩) hH ?_
                      rotate_left
                      · (intro w'' hSw; (try dsimp only at hSw); go_simp; try with_reducible rfl)
                      change wpAnyU _ _ _ _ _ _ _ _ (Act.put _ (some 109) _) _
                      try simp only [Act.put, List.setIfInBounds_toArray, List.set_cons_zero, List.set_cons_succ]
                      refine wpAnyU_take (i := 6) (v := ?_) rfl (by kernel_rfl) (by kernel_rfl) (by kernel_rfl) (by kernel_rfl) (fun _ _ _ h => h) (Or.inl ⟨by rfl, ?_⟩) hH ?_
                      rotate_left
                      · (intro w'' hSw; (have l0 := ints_cell hSw.out.2 (j := k) (by rw [List.length_set, HLN.out]; exact HKN.out) (-1); rw [getD_set, if_pos ⟨rfl, by rw [HLN.out]; exact HKN.out⟩] at l0); go_simp; try with_reducible rfl)
                      change wpAnyU _ _ _ _ _ _ _ _ (Act.put _ (some 110) _) _
                      try simp only [Act.put, List.setIfInBounds_toArray, List.set_cons_zero, List.set_cons_succ]
                      refine wpAnyU_take (i := 7) (v := ?_) rfl (by kernel_rfl) (by kernel_rfl) (by kernel_rfl) (by kernel_rfl) (fun _ _ _ h => h) (Or.inl ⟨by rfl, ?_⟩) hH ?_
                      rotate_left
                      · (intro w'' hSw; (try dsimp only at hSw); go_simp; try with_reducible rfl)
                      change wpAnyU _ _ _ _ _ _ _ _ (Act.put _ (some 111) _) _
                      try simp only [Act.put, List.setIfInBounds_toArray, List.set_cons_zero, List.set_cons_succ]
                      refine wpAnyU_take (i := 8) (v := ?_) rfl (by kernel_rfl) (by kernel_rfl) (by kernel_rfl) (by kernel_rfl) (fun _ _ _ h => h) (Or.inl ⟨by rfl, ?_⟩) hH ?_
                      rotate_left
                      · (intro w'' hSw; (try dsimp only at hSw); go_simp; try with_reducible rfl)
                      change wpAnyU _ _ _ _ _ _ _ _ (Act.put _ (some 112) _) _
                      try simp only [Act.put, List.setIfInBounds_toArray, List.set_cons_zero, List.set_cons_succ]
                      refine wpAnyU_take (i := 9) (v := ?_) rfl (by kernel_rfl) (by kernel_rfl) (by kernel_rfl) (by kernel_rfl) (fun _ _ _ h => h) (Or.inl ⟨by rfl, ?_⟩) hH ?_
                      rotate_left
                      · (intro w'' hSw; (try dsimp only at hSw); go_simp; try with_reducible rfl)
                      change wpAnyU _ _ _ _ _ _ _ _ (Act.put _ (some 113) _) _
                      try simp only [Act.put, List.setIfInBounds_toArray, List.set_cons_zero, List.set_cons_succ]
                      refine wpAnyU_take (i := 10) (v := ?_) rfl (by kernel_rfl) (by kernel_rfl) (by kernel_rfl) (by kernel_rfl) (fun _ _ _ h => h) (Or.inl ⟨by rfl, ?_⟩) hH ?_
                      rotate_left
                      · (intro w'' hSw; (try dsimp only at hSw); go_simp; try with_reducible rfl)
                      change wpAnyU _ _ _ _ _ _ _ _ (Act.put _ (some 114) _) _
                      try simp only [Act.put, List.setIfInBounds_toArray, List.set_cons_zero, List.set_cons_succ]
                      refine wpAnyU_pure (i := 11) (v := ?_) rfl (by kernel_rfl) (by kernel_rfl) (by kernel_rfl) (by rfl) (fun _ _ _ h => h) (Or.inl ⟨by rfl, ?_⟩) ?_
                      rotate_left
                      · (intro w'' _; go_simp; try with_reducible rfl)
                      change wpAnyU _ _ _ _ _ _ _ _ (Act.put _ (some 115) _) _
                      try simp only [Act.put, List.setIfInBounds_toArray, List.set_cons_zero, List.set_cons_succ]
                      refine wpAnyU_ready (rs := [12]) (by kernel_rfl) (by simp) ?_
                      refine AllReadyU.last rfl (by rfl) (fun Kn hKn => ?_) AllReadyU.nil
                      go_simp
                      have c0 := (blk_cell HRY.out 1).trans rfl
                      have f0 := blk_free HRY.out 1
                      go_simp
                      refine hKn.out _ _ ?_
                      clear hKn Kn
                      try simp only [Act.put, List.setIfInBounds_toArray, List.set_cons_zero, List.set_cons_succ]
                      refine wpAnyU_done (by kernel_rfl) ?_ _
                      go_wp2_with fail
                      refine ⟨?_, by simp [RowKit.intOf]; omega⟩
                      repeat apply Exists.intro
                      refine ⟨?_, rfl⟩
                      refine ⟨k + 1, by omega, by go_num, Lib.hid ⟨?_, ?_⟩⟩
                      · rw [HRP.out]
                        refine ⟨?_, ?_, ?_⟩
                        · refine Keep.trans HA8.out.keep (Keep.trans (Keep.mono HW4.out.1 (fun b e => .inr (.inr (by have h1 := HT6.out; have h2 := HA8.out.keep.size; rcases e with e | e <;> omega)))) (Keep.trans (keep_draw _ wi) (Keep.trans (Keep.mono HKF.out (fun _ e => e.elim)) (Keep.trans (Keep.mono HKZ.out (fun _ e => .inl e)) (Keep.trans (keep_draw _ wz) ?_)))))
                          rw [HWY.out]
                          exact keep_setF wy (.inr (.inl rfl)) 1 _
                        · exact ((keep_set (Keep.refl (fun b => b = gL + 1) wy) 1 _).block gL (by rw [← HWY.out]; exact blk_lt' HLZ.out) (by omega)).trans (by rw [← HWY.out]; exact HLZ.out)
                        · refine (blk_set HRY.out 1 _).trans ?_
                          have hmm : (if (fv : Int) + 1 - n > sk.2 then (fv : Int) + 1 - n else sk.2) = max sk.2 ((fv : Int) + 1 - n) := by split <;> omega
                          first | rfl | (rw [← hmm]; rfl)
                      · show AInv _ _ _ _ (stepP _ _ _ _ _ _).1
                        rw [HSKE.out]
                        exact HW3.out.2.step hfew HKN.out T.spans n
            · have hb1 : decide (k < N) = false := by simpa using hlt
              obtain rfl : N = k := by omega
              clear hsk
              go_wp2_with fail
              exact ⟨⟨2, by omega, rfl, Lib.hid ⟨by have h9 := HW3.out.1; rw [← HSKE.out] at h9; exact h9, fun e => by omega, fun e => by omega⟩⟩, by simp [RowKit.intOf]⟩
        · have HA2 := Lib.hid (show AL w6 gL (gL + 1) N n (allocP T.spans T.on n N) wo from HW2.out.1)
          clear HW2
          have r0 := (blk_cell HA2.out.reg 0).trans rfl
          have r1 := (blk_cell HA2.out.reg 1).trans rfl
          have r2 := (blk_cell HA2.out.reg 2).trans rfl
          have HSo := Lib.hid (show Since w3.heap.size w3 wo from Keep.trans HS6.out (Keep.mono HA2.out.keep (fun b e => by have := HGL.out; have := HS6.out.size; omega)))
          have hq1 := (HSo.out.block (q + 1) (blk_lt' HQ1.out) (Nat.not_le_of_lt (blk_lt' HQ1.out))).trans HQ1.out
          have q0 := (blk_cell hq1 0).trans rfl
          have q1 := (blk_cell hq1 1).trans rfl
          have q2 := (blk_cell hq1 2).trans rfl
          have f0 := blk_free hq1 0
          have f1 := blk_free hq1 1
          have f2 := blk_free hq1 2
          have HQF := Lib.hid hq1
          clear hq1
          go_wp2_with fail
          have hfin := blk_set (blk_set (blk_set HQF.out 0 (.int .i64 n)) 1 (.int .i64 (allocP T.spans T.on n N).2)) 2 (.slice (some ⟨gL, 0, none⟩) N N)
          simp only [List.setIfInBounds_toArray, List.set_cons_zero, List.set_cons_succ] at hfin
          have hk3 : Keep (fun b => b = q + 1) wo (((wo.setCell ⟨q + 1, 0, none⟩ (.int .i64 n)).setCell ⟨q + 1, 1, none⟩ (.int .i64 (allocP T.spans T.on n N).2)).setCell ⟨q + 1, 2, none⟩ (.slice (some ⟨gL, 0, none⟩) N N)) := keep_set (keep_set (keep_set (Keep.refl _ wo) 0 _) 1 _) 2 _
          refine bodyPost_ret (results_row_tmp (ty := 36) rfl _ _ (q + 1) _ _ _ _ rfl hfin Tryd.underlying36 rfl (by kernel_rfl)) rfl ?_
          refine ⟨gL, rfl, (hk3.block gL (blk_lt' HA2.out.loc) (by have := HTq.out; omega)).trans HA2.out.loc, by have := HW3.out.size; have := HGL.out; omega, ?_⟩
          exact Keep.trans HW3.out (Keep.trans (Since.mono HSo.out HW3.out.size) (Keep.mono hk3 (fun b e => by have := HQ.out; omega)))
end
end Go.Proofs.YtnbpgipbfejllaaDoor
