/- regs: Check (the program's). -/
import Derived.Test.YtnbpgipbfejllaaDoorMG38
import Derived.Test.YtnbpgipbfejllaaDoorMK0
namespace Go.Proofs.YtnbpgipbfejllaaDoor
open Go.RowKit Go.Lib
set_option linter.unusedVariables false
set_option linter.unusedSimpArgs false

/-- An instruction's location clashes with an earlier one's. -/
def clashAt (S : List (Int × Int)) (loc : List Int) (k j : Nat) : Bool := (loc.getD j 0 == loc.getD k 0) && confl (S.getD j (0, 0)) (S.getD k (0, 0))
def badAt (S : List (Int × Int)) (rg st : Int) (loc : List Int) (k : Nat) : Bool :=
  if S.getD k (0, 0) = (-1, -1) then (loc.getD k 0 != -1)
  else decide (loc.getD k 0 < 0) || (decide (rg + st ≤ loc.getD k 0) || (List.range k).any (clashAt S loc k))
def checkP (S : List (Int × Int)) (rg st : Int) (loc : List Int) (N : Nat) : Int :=
  if rg < 1 ∨ 16 < rg ∨ st < 0 ∨ 200 < st ∨ loc.length ≠ N then 1 else if (List.range N).any (badAt S rg st loc) then 32 else 0
theorem checkP_arg {S : List (Int × Int)} {rg st : Int} {loc : List Int} {N : Nat} (h : rg < 1 ∨ 16 < rg ∨ st < 0 ∨ 200 < st ∨ loc.length ≠ N) : checkP S rg st loc N = 1 := if_pos h
theorem checkP_bad {S : List (Int × Int)} {rg st : Int} {loc : List Int} {N k : Nat} (h : ¬ (rg < 1 ∨ 16 < rg ∨ st < 0 ∨ 200 < st ∨ loc.length ≠ N)) (hk : k < N) (hb : badAt S rg st loc k = true) : checkP S rg st loc N = 32 := by
  unfold checkP
  rw [if_neg h, if_pos (List.any_eq_true.2 ⟨k, List.mem_range.2 hk, hb⟩)]
theorem checkP_good {S : List (Int × Int)} {rg st : Int} {loc : List Int} {N : Nat} (h : ¬ (rg < 1 ∨ 16 < rg ∨ st < 0 ∨ 200 < st ∨ loc.length ≠ N)) (hg : ∀ i, i < N → badAt S rg st loc i = false) : checkP S rg st loc N = 0 := by
  unfold checkP
  rw [if_neg h, if_neg]
  intro e
  obtain ⟨k, hk, hb⟩ := List.any_eq_true.1 e
  rw [hg k (List.mem_range.1 hk)] at hb
  cases hb
theorem badAt_clash {S : List (Int × Int)} {rg st : Int} {loc : List Int} {k j : Nat} (h : ¬ S.getD k (0, 0) = (-1, -1)) (hj : j < k) (hc : clashAt S loc k j = true) : badAt S rg st loc k = true := by
  unfold badAt
  rw [if_neg h, List.any_eq_true.2 ⟨j, List.mem_range.2 hj, hc⟩]
  simp
theorem badAt_good {S : List (Int × Int)} {rg st : Int} {loc : List Int} {k : Nat} (h : ¬ S.getD k (0, 0) = (-1, -1)) (h0 : 0 ≤ loc.getD k 0) (h1 : loc.getD k 0 < rg + st) (hc : ∀ j, j < k → clashAt S loc k j = false) : badAt S rg st loc k = false := by
  unfold badAt
  rw [if_neg h, decide_eq_false (by omega), decide_eq_false (by omega)]
  simp only [Bool.false_or]
  rw [List.any_eq_false]
  intro j hj
  rw [hc j (List.mem_range.1 hj)]
  decide
section
variable {w w' : World} {A : Option Addr} {ca : Nat} {E : Option Addr} {ce : Nat} {R : List RI} {X : List RX} {T : TR}
theorem ints_ofs {W : World} {A : Option Addr} {n : Nat} {l : List Int} (h : IntsAt W A n l) {j : Nat} (hj : j < n) : ∃ b o, A = some ⟨b, o, none⟩ ∧ b < W.heap.size ∧ W.cell? ⟨b, o + j, none⟩ = some (.int .i64 (l.getD j 0)) := by
  have hl : l.length = n := by have := h.1; unfold ints at this; rwa [List.length_map] at this
  obtain ⟨b, o, e, hb, hc⟩ := h.2.2 (by omega)
  refine ⟨b, o, e, hb, (hc j hj).trans ?_⟩
  unfold ints
  rw [List.getElem?_map, List.getD_eq_getElem?_getD, List.getElem?_eq_getElem (by omega)]
  rfl
theorem cells_since {A : Option Addr} {n : Nat} {xs : List Value} (h : CellsAt w A n xs) (hk : Since w.heap.size w w') : CellsAt w' A n xs := by
  refine ⟨h.1, h.2.1, fun h0 => ?_⟩
  obtain ⟨b, o, e, hb, hc⟩ := h.2.2 h0
  exact ⟨b, o, e, Nat.lt_of_lt_of_le hb hk.size, fun j hj => (hk.cell hb (Nat.not_le_of_lt hb)).trans (hc j hj)⟩
set_option maxRecDepth 100000 in
set_option maxHeartbeats 16000000 in
theorem check_any {P : Nat} (h : TA w A ca E ce R X T) (hr : RightT P T) (hn : NB w) (rg st : Int) {LA : Option Addr} {L Lc : Nat} {loc : List Int} (hL : IntsAt w LA L loc) (hL1 : L ≤ 1000000) : Calls Tryd.prog 18 #[trV A ca E ce T, .agg #[.int .i64 rg, .int .i64 st, .slice LA L Lc]] w fun e w' => e = .returned (.int .i64 (checkP T.spans rg st loc T.ins.length)) ∧ Since w.heap.size w w' := by
  have HR := Lib.hid hr
  have HNB := Lib.hid hn
  have HLL := Lib.hid (show loc.length = L from by have := hL.1; unfold ints at this; rwa [List.length_map] at this)
  have HK := Lib.hid (((Keep.refl (fun _ => False) w).alloc' (.cells #[.int .i64 T.pf, .int .i64 T.pl, .slice A T.ins.length ca, .slice E T.exits.length ce] 31)).alloc' (.cells #[.int .i64 rg, .int .i64 st, .slice LA L Lc] 36))
  have HT := Lib.hid (h.quiet HK.out)
  have HB := Lib.hid (@blk_two w (.cells #[.int .i64 T.pf, .int .i64 T.pl, .slice A T.ins.length ca, .slice E T.exits.length ce] 31) (.cells #[.int .i64 rg, .int .i64 st, .slice LA L Lc] 36))
  have HLI := Lib.hid hL
  have HGR := Lib.hid (fun W (hW : TA W A ca E ce R X T) => gright_any hW hr)
  have HGS := Lib.hid (fun W (hW : TA W A ca E ce R X T) (hn : NB W) => spans_any hW hr hn)
  have hfew := hr.few
  have HSL := Lib.hid (show T.spans.length = T.ins.length from by unfold TR.spans; rw [List.length_map, List.length_range])
  obtain ⟨N, hN⟩ : ∃ N, T.ins.length = N := ⟨_, rfl⟩
  obtain ⟨M, hM⟩ : ∃ M, T.exits.length = M := ⟨_, rfl⟩
  have HN := Lib.hid hN
  unfold trV at HGR HGS ⊢
  rw [hN] at hfew HSL
  rw [hN, hM] at HK HB HT HGR HGS
  rw [hN, hM]
  clear h hr hn hN hM hL
  go_enter Tryd.func18, Tryd.ntmps18
  go_upto_region 1 with (fail)
  obtain ⟨w1, hw1⟩ : ∃ w1 : World, (w.alloc (.cells #[.int .i64 T.pf, .int .i64 T.pl, .slice A N ca, .slice E M ce] 31)).alloc (.cells #[.int .i64 rg, .int .i64 st, .slice LA L Lc] 36) = w1 := ⟨_, rfl⟩
  have HSZ := Lib.hid (show w1.heap.size = w.heap.size + 2 by rw [← hw1]; simp)
  obtain ⟨q, hq⟩ : ∃ q, w.heap.size = q := ⟨_, rfl⟩
  rw [hw1] at HB HK HT
  rw [hq] at HB HSZ
  rw [hw1, hq]
  have HQ := Lib.hid hq
  clear hw1 hq
  have d0 := (blk_cell HB.out.1 0).trans rfl
  have d1 := (blk_cell HB.out.1 1).trans rfl
  have d2 := (blk_cell HB.out.1 2).trans rfl
  have d3 := (blk_cell HB.out.1 3).trans rfl
  go_wp2_with fail
  ((with_reducible refine (HGR.out _ HT.out).mono ?_); rintro ee w2 ⟨rfl, hk2⟩)
  have HK2 := Lib.hid (show Since w.heap.size w w2 from Keep.trans (Since.of HK.out) (Since.mono hk2 HK.out.size))
  have hb2 := (hk2.block q (by have := HSZ.out; omega) (by have := HSZ.out; omega)).trans HB.out.1
  have hr2 := (hk2.block (q + 1) (by have := HSZ.out; omega) (by have := HSZ.out; omega)).trans HB.out.2
  have HB2 := Lib.hid hb2
  have HR2 := Lib.hid hr2
  have HT2 := Lib.hid (HT.out.since hk2)
  have HN2 := Lib.hid ((HNB.out.keep HK.out id).since hk2 (by have := HNB.out.pos; have := HSZ.out; omega))
  have d0 := (blk_cell hb2 0).trans rfl
  have d1 := (blk_cell hb2 1).trans rfl
  have d2 := (blk_cell hb2 2).trans rfl
  have d3 := (blk_cell hb2 3).trans rfl
  have r0 := (blk_cell hr2 0).trans rfl
  have r1 := (blk_cell hr2 1).trans rfl
  have r2 := (blk_cell hr2 2).trans rfl
  clear hk2 hb2 hr2
  by_cases h1 : rg < 1
  · have c1 : decide (rg < 1) = true := by simpa using h1
    have HCP := Lib.hid (checkP_arg (S := T.spans) (loc := loc) (N := N) (rg := rg) (st := st) (.inl h1))
    clear h1
    go_wp2_with fail
    go_ret
    exact ⟨by rw [HCP.out]; rfl, HK2.out⟩
  have c1 : decide (rg < 1) = false := by simpa using h1
  by_cases h2 : 16 < rg
  · have c2 : decide (16 < rg) = true := by simpa using h2
    have HCP := Lib.hid (checkP_arg (S := T.spans) (loc := loc) (N := N) (rg := rg) (st := st) (.inr (.inl h2)))
    clear h1 h2
    go_wp2_with fail
    go_ret
    exact ⟨by rw [HCP.out]; rfl, HK2.out⟩
  have c2 : decide (16 < rg) = false := by simpa using h2
  by_cases h3 : st < 0
  · have c3 : decide (st < 0) = true := by simpa using h3
    have HCP := Lib.hid (checkP_arg (S := T.spans) (loc := loc) (N := N) (rg := rg) (st := st) (.inr (.inr (.inl h3))))
    clear h1 h2 h3
    go_wp2_with fail
    go_ret
    exact ⟨by rw [HCP.out]; rfl, HK2.out⟩
  have c3 : decide (st < 0) = false := by simpa using h3
  by_cases h4 : 200 < st
  · have c4 : decide (200 < st) = true := by simpa using h4
    have HCP := Lib.hid (checkP_arg (S := T.spans) (loc := loc) (N := N) (rg := rg) (st := st) (.inr (.inr (.inr (.inl h4)))))
    clear h1 h2 h3 h4
    go_wp2_with fail
    go_ret
    exact ⟨by rw [HCP.out]; rfl, HK2.out⟩
  have c4 : decide (200 < st) = false := by simpa using h4
  by_cases h5 : L = N
  rotate_left
  · have c5 : (L == N) = false := by simpa using h5
    have c6 : ((L : Int) != (N : Int)) = true := by simp; omega
    have HCP := Lib.hid (checkP_arg (S := T.spans) (loc := loc) (N := N) (rg := rg) (st := st) (.inr (.inr (.inr (.inr (by rw [HLL.out]; exact h5))))))
    clear h1 h2 h3 h4 h5
    go_wp2_with fail
    go_ret
    exact ⟨by rw [HCP.out]; rfl, HK2.out⟩
  subst h5
  have HARG := Lib.hid (show ¬ (rg < 1 ∨ 16 < rg ∨ st < 0 ∨ 200 < st ∨ loc.length ≠ L) from by have := HLL.out; omega)
  go_wp2_with fail
  ((with_reducible refine (HGS.out _ HT2.out HN2.out).mono ?_); rintro ee w3 ⟨gS, rfl, hgS, hgl, hk3⟩)
  have HSP := Lib.hid hgS
  have HGL := Lib.hid hgl
  have HK3 := Lib.hid (Keep.trans HK2.out (Since.mono hk3 HK2.out.size))
  have HR3 := Lib.hid ((hk3.block (q + 1) (blk_lt HR2.out) (Nat.not_le_of_lt (blk_lt HR2.out))).trans HR2.out)
  have HN3 := Lib.hid (HN2.out.since hk3 (by have := HN2.out.pos; have := blk_lt HR2.out; have := HNB.out.pos; have := HQ.out; omega))
  have HL3 := Lib.hid (cells_since HLI.out HK3.out)
  have r0 := (blk_cell HR3.out 0).trans rfl
  have r1 := (blk_cell HR3.out 1).trans rfl
  have r2 := (blk_cell HR3.out 2).trans rfl
  clear hgS hgl hk3 d0 d1 d2 d3
  go_wp2_with fail
  go_loopw [47] (fun i wr => ∃ k : Nat, k ≤ L ∧ i = .int .i64 (k : Int) ∧ Hid (Keep (fun _ => False) w3 wr ∧ ∀ i, i < k → badAt T.spans rg st loc i = false)) (fun i _ => L + 1 - (RowKit.intOf i).toNat)
  case atStart => exact ⟨0, Nat.zero_le _, rfl, Lib.hid ⟨Keep.refl _ _, fun i hi => absurd hi (Nat.not_lt_zero i)⟩⟩
  case round =>
    obtain ⟨k, hk, rfl, HW⟩ := hrel
    obtain ⟨wo, rfl⟩ : ∃ wo : World, wo = wr := ⟨_, rfl⟩
    clear r0 r1 r2
    by_cases hlt : k < L
    · have hb1 : decide (k < L) = true := by simpa using hlt
      have hkI : (k : Int) < (L : Int) := by omega
      obtain ⟨bl, ol, rfl, hbl, l0⟩ := ints_ofs (CellsAt.keep HL3.out HW.out.1 (fun _ _ => id)) hlt
      have HLo := Lib.hid (CellsAt.keep HL3.out HW.out.1 (fun _ _ => id))
      obtain ⟨lk, hlk⟩ : ∃ lk, loc.getD k 0 = lk := ⟨_, rfl⟩
      rw [hlk] at l0
      have HLK := Lib.hid hlk
      have hsp := (HW.out.1.block gS (blk_lt HSP.out) id).trans HSP.out
      have HSPo := Lib.hid hsp
      have hrl := row2_at T.spans k (by rw [HSL.out]; exact hlt)
      obtain ⟨⟨sx, sy⟩, hsxy⟩ : ∃ s, T.spans.getD k (0, 0) = s := ⟨_, rfl⟩
      rw [hsxy] at hrl
      have HTK := Lib.hid (show (row2 T.spans).toArray[k * 2]? = some (.int .i64 sx) ∧ (row2 T.spans).toArray[k * 2 + 1]? = some (.int .i64 sy) from ⟨List.getElem?_toArray.trans hrl.1, List.getElem?_toArray.trans hrl.2⟩)
      have s0 := (blk_cell hsp (k * 2)).trans HTK.out.1
      have s1 := (blk_cell hsp (k * 2 + 1)).trans HTK.out.2
      have HNW := Lib.hid (show NB wo from HN3.out.keep HW.out.1 id)
      have n0 := HNW.out.c0
      have n1 := HNW.out.c1
      have e1 := fun W => eq_pair sx sy (-1) (-1) W
      have HXY := Lib.hid hsxy
      have HRo := Lib.hid ((HW.out.1.block (q + 1) (blk_lt HR3.out) id).trans HR3.out)
      have r0 := (blk_cell HRo.out 0).trans rfl
      have r1 := (blk_cell HRo.out 1).trans rfl
      have r2 := (blk_cell HRo.out 2).trans rfl
      have hKo := Keep.trans HK3.out (Since.of (n := w.heap.size) HW.out.1)
      have HKo := Lib.hid hKo
      obtain ⟨bq, hbq⟩ : ∃ bq, (sx == -1 && sy == -1) = bq := ⟨_, rfl⟩
      rw [hbq] at e1
      have HBQ := Lib.hid hbq
      clear hsp hrl hsxy hbq hlk hKo hbl
      cases bq with
      | true =>
        have HSE := Lib.hid (show T.spans.getD k (0, 0) = (-1, -1) from by rw [HXY.out]; have h9 := HBQ.out; simp at h9; rw [h9.1, h9.2])
        by_cases hm : lk = -1
        · subst hm
          have HBG := Lib.hid (show badAt T.spans rg st loc k = false from by unfold badAt; rw [if_pos HSE.out, HLK.out]; rfl)
          go_wp2_with fail
          go_quiet (fail)
          go_wp2_with fail
          exact ⟨⟨k + 1, by omega, by go_num, Lib.hid ⟨Keep.trans HW.out.1 (keep_drewN _ _ _), fun i hi => by rcases Nat.lt_succ_iff_lt_or_eq.1 hi with h9 | rfl; exact HW.out.2 i h9; exact HBG.out⟩⟩, by simp [RowKit.intOf]; omega⟩
        · have c6 : (lk != -1) = true := by simpa using hm
          have c7 : (lk == -1) = false := by simpa using hm
          have HCP := Lib.hid (checkP_bad HARG.out hlt (show badAt T.spans rg st loc k = true from by unfold badAt; rw [if_pos HSE.out, HLK.out]; exact c6))
          go_wp2_with fail
          go_quiet (fail)
          go_wp2_with fail
          go_ret
          exact ⟨by rw [HCP.out]; rfl, Keep.trans HKo.out (keep_drewN _ _ _)⟩
      | false =>
        have HSE := Lib.hid (show ¬ T.spans.getD k (0, 0) = (-1, -1) from by rw [HXY.out]; have h9 := HBQ.out; intro e; cases e; simp at h9)
        by_cases hn0 : lk < 0
        · have c6 : decide (lk < 0) = true := by simpa using hn0
          have HCP := Lib.hid (checkP_bad HARG.out hlt (show badAt T.spans rg st loc k = true from by unfold badAt; rw [if_neg HSE.out, HLK.out, c6]; rfl))
          clear hn0
          go_wp2_with fail
          go_quiet (fail)
          go_wp2_with fail
          go_ret
          exact ⟨by rw [HCP.out]; rfl, Keep.trans HKo.out (keep_drewN _ _ _)⟩
        have c6 : decide (lk < 0) = false := by simpa using hn0
        by_cases hn1 : rg + st ≤ lk
        · have c7 : decide (rg + st ≤ lk) = true := by simpa using hn1
          have HCP := Lib.hid (checkP_bad HARG.out hlt (show badAt T.spans rg st loc k = true from by unfold badAt; rw [if_neg HSE.out, HLK.out, c6, c7]; rfl))
          have r0 := (blk_cell ((keep_drewN (fun _ => False) wo 1).block (q + 1) (blk_lt HRo.out) id |>.trans HRo.out) 0).trans rfl
          clear r0
          go_wp2_with fail
          go_quiet (fail)
          go_wp2_with fail
          go_ret
          exact ⟨by rw [HCP.out]; rfl, Keep.trans HKo.out (keep_drewN _ _ _)⟩
        have c7 : decide (rg + st ≤ lk) = false := by simpa using hn1
        go_wp2_with fail
        go_quiet (fail)
        go_wp2_with fail
        have HKw := Lib.hid (keep_drewN (fun _ => False) wo nq)
        clear s0 s1 n0 n1 e1 r0 r1 r2 l0 hn0 hn1
        go_loopw [72] (fun i wr => ∃ j : Nat, j ≤ k ∧ i = .int .i64 (j : Int) ∧ Hid (Keep (fun _ => False) wo wr ∧ ∀ i, i < j → clashAt T.spans loc k i = false)) (fun i _ => k + 1 - (RowKit.intOf i).toNat)
        case atStart => exact ⟨0, Nat.zero_le _, rfl, Lib.hid ⟨HKw.out, fun i hi => absurd hi (Nat.not_lt_zero i)⟩⟩
        case round =>
          obtain ⟨j, hj, rfl, HJ⟩ := hrel
          obtain ⟨wj, rfl⟩ : ∃ wj : World, wj = wr := ⟨_, rfl⟩
          by_cases hjk : j < k
          · have hb2 : decide (j < k) = true := by simpa using hjk
            have hjL : j < L := by omega
            have hjI : (j : Int) < (L : Int) := by omega
            obtain ⟨b2, o2, e2, hb2', l1⟩ := ints_ofs (CellsAt.keep HLo.out HJ.out.1 (fun _ _ => id)) hjL
            obtain ⟨rfl, rfl⟩ : bl = b2 ∧ ol = o2 := by
              have := Option.some.inj e2
              injection this with a b
              exact ⟨a, b⟩
            obtain ⟨lj, hlj⟩ : ∃ lj, loc.getD j 0 = lj := ⟨_, rfl⟩
            rw [hlj] at l1
            have HLJ := Lib.hid hlj
            have HRj := Lib.hid ((HJ.out.1.block (q + 1) (blk_lt HRo.out) id).trans HRo.out)
            have HSJ := Lib.hid ((HJ.out.1.block gS (blk_lt HSPo.out) id).trans HSPo.out)
            have HNJ := Lib.hid (show NB wj from HNW.out.keep HJ.out.1 id)
            have hrl := row2_at T.spans j (by rw [HSL.out]; exact hjL)
            obtain ⟨⟨tx, ty⟩, htxy⟩ : ∃ s, T.spans.getD j (0, 0) = s := ⟨_, rfl⟩
            rw [htxy] at hrl
            have HTJ := Lib.hid (show (row2 T.spans).toArray[j * 2]? = some (.int .i64 tx) ∧ (row2 T.spans).toArray[j * 2 + 1]? = some (.int .i64 ty) from ⟨List.getElem?_toArray.trans hrl.1, List.getElem?_toArray.trans hrl.2⟩)
            have HTXY := Lib.hid htxy
            have r2 := (blk_cell HRj.out 2).trans rfl
            have HKj := Lib.hid (Keep.trans HKo.out (Since.of (n := w.heap.size) HJ.out.1))
            clear hlj hrl htxy e2 hb2'
            by_cases hll : lj = lk
            · subst hll
              have HCF := Lib.hid (fun W (hn : NB W) => conflict_any tx ty sx sy hn)
              obtain ⟨cf, hcf⟩ : ∃ cf, confl (tx, ty) (sx, sy) = cf := ⟨_, rfl⟩
              rw [hcf] at HCF
              have HCL := Lib.hid (show clashAt T.spans loc k j = cf from by unfold clashAt; rw [HLJ.out, HLK.out, HTXY.out, HXY.out, hcf]; simp)
              have HL1 := Lib.hid l1
              clear hcf
              go_wp2_with fail
              refine wp_region_drewU (S := (fun w' => Hid (w'.heap[gS]? = some (.cells (row2 T.spans).toArray 34 (0, 0)) ∧ w'.heap[q + 1]? = some (.cells #[.int .i64 rg, .int .i64 st, .slice (some ⟨bl, ol, none⟩) L Lc] 36 (0, 0)) ∧ w'.cell? ⟨bl, ol + j, none⟩ = some (.int .i64 lj)))) (D := []) (by kernel_rfl) (by exact Lib.hid ⟨HSJ.out, HRj.out, HL1.out⟩) (fun hH => ?_)
              refine wpAnyU_take (i := 0) (v := ?_) rfl (by kernel_rfl) (by kernel_rfl) (by kernel_rfl) (by kernel_rfl) (fun _ _ _ h => h) (Or.inl ⟨by rfl, ?_⟩) hH ?_
              rotate_left
              · (intro w'' hSw; (try dsimp only at hSw); go_simp; try with_reducible rfl)
              change wpAnyU _ _ _ _ _ _ _ _ (Act.put _ (some 75) _) _
              try (simp only [Act.put, List.setIfInBounds_toArray]; dsimp only [List.set_cons_zero, List.set_cons_succ])
              refine wpAnyU_take (i := 1) (v := ?_) rfl (by kernel_rfl) (by kernel_rfl) (by kernel_rfl) (by kernel_rfl) (fun _ _ _ h => h) (Or.inl ⟨by rfl, ?_⟩) hH ?_
              rotate_left
              · (intro w'' hSw; (have t9 := (blk_cell hSw.out.2.1 2).trans rfl); go_simp; try with_reducible rfl)
              change wpAnyU _ _ _ _ _ _ _ _ (Act.put _ (some 76) _) _
              try (simp only [Act.put, List.setIfInBounds_toArray]; dsimp only [List.set_cons_zero, List.set_cons_succ])
              refine wpAnyU_take (i := 2) (v := ?_) rfl (by kernel_rfl) (by kernel_rfl) (by kernel_rfl) (by kernel_rfl) (fun _ _ _ h => h) (Or.inl ⟨by rfl, ?_⟩) hH ?_
              rotate_left
              · (intro w'' hSw; (try dsimp only at hSw); go_simp; try with_reducible rfl)
              change wpAnyU _ _ _ _ _ _ _ _ (Act.put _ (some 77) _) _
              try (simp only [Act.put, List.setIfInBounds_toArray]; dsimp only [List.set_cons_zero, List.set_cons_succ])
              refine wpAnyU_take (i := 3) (v := ?_) rfl (by kernel_rfl) (by kernel_rfl) (by kernel_rfl) (by kernel_rfl) (fun _ _ _ h => h) (Or.inl ⟨by rfl, ?_⟩) hH ?_
              rotate_left
              · (intro w'' hSw; (try dsimp only at hSw); go_simp; try with_reducible rfl)
              change wpAnyU _ _ _ _ _ _ _ _ (Act.put _ (some 78) _) _
              try (simp only [Act.put, List.setIfInBounds_toArray]; dsimp only [List.set_cons_zero, List.set_cons_succ])
              refine wpAnyU_take (i := 4) (v := ?_) rfl (by kernel_rfl) (by kernel_rfl) (by kernel_rfl) (by kernel_rfl) (fun _ _ _ h => h) (Or.inl ⟨by rfl, ?_⟩) hH ?_
              rotate_left
              · (intro w'' hSw; (have t8 := hSw.out.2.2); go_simp; try with_reducible rfl)
              change wpAnyU _ _ _ _ _ _ _ _ (Act.put _ (some 79) _) _
              try (simp only [Act.put, List.setIfInBounds_toArray]; dsimp only [List.set_cons_zero, List.set_cons_succ])
              refine wpAnyU_take (i := 5) (v := ?_) rfl (by kernel_rfl) (by kernel_rfl) (by kernel_rfl) (by kernel_rfl) (fun _ _ _ h => h) (Or.inl ⟨by rfl, ?_⟩) hH ?_
              rotate_left
              · (intro w'' hSw; (try dsimp only at hSw); go_simp; try with_reducible rfl)
              change wpAnyU _ _ _ _ _ _ _ _ (Act.put _ (some 80) _) _
              try (simp only [Act.put, List.setIfInBounds_toArray]; dsimp only [List.set_cons_zero, List.set_cons_succ])
              refine wpAnyU_take (i := 6) (v := ?_) rfl (by kernel_rfl) (by kernel_rfl) (by kernel_rfl) (by kernel_rfl) (fun _ _ _ h => h) (Or.inl ⟨by rfl, ?_⟩) hH ?_
              rotate_left
              · (intro w'' hSw; (try dsimp only at hSw); go_simp; try with_reducible rfl)
              change wpAnyU _ _ _ _ _ _ _ _ (Act.put _ (some 81) _) _
              try (simp only [Act.put, List.setIfInBounds_toArray]; dsimp only [List.set_cons_zero, List.set_cons_succ])
              refine wpAnyU_take (i := 7) (v := ?_) rfl (by kernel_rfl) (by kernel_rfl) (by kernel_rfl) (by kernel_rfl) (fun _ _ _ h => h) (Or.inl ⟨by rfl, ?_⟩) hH ?_
              rotate_left
              · (intro w'' hSw; (try dsimp only at hSw); go_simp; try with_reducible rfl)
              change wpAnyU _ _ _ _ _ _ _ _ (Act.put _ (some 82) _) _
              try (simp only [Act.put, List.setIfInBounds_toArray]; dsimp only [List.set_cons_zero, List.set_cons_succ])
              refine wpAnyU_take (i := 8) (v := ?_) rfl (by kernel_rfl) (by kernel_rfl) (by kernel_rfl) (by kernel_rfl) (fun _ _ _ h => h) (Or.inl ⟨by rfl, ?_⟩) hH ?_
              rotate_left
              · (intro w'' hSw; (try dsimp only at hSw); go_simp; try with_reducible rfl)
              change wpAnyU _ _ _ _ _ _ _ _ (Act.put _ (some 83) _) _
              try (simp only [Act.put, List.setIfInBounds_toArray]; dsimp only [List.set_cons_zero, List.set_cons_succ])
              refine wpAnyU_take (i := 9) (v := ?_) rfl (by kernel_rfl) (by kernel_rfl) (by kernel_rfl) (by kernel_rfl) (fun _ _ _ h => h) (Or.inl ⟨by rfl, ?_⟩) hH ?_
              rotate_left
              · (intro w'' hSw; (try dsimp only at hSw); go_simp; try with_reducible rfl)
              change wpAnyU _ _ _ _ _ _ _ _ (Act.put _ (some 84) _) _
              try (simp only [Act.put, List.setIfInBounds_toArray]; dsimp only [List.set_cons_zero, List.set_cons_succ])
              refine wpAnyU_take (i := 10) (v := ?_) rfl (by kernel_rfl) (by kernel_rfl) (by kernel_rfl) (by kernel_rfl) (fun _ _ _ h => h) (Or.inl ⟨by rfl, ?_⟩) hH ?_
              rotate_left
              · (intro w'' hSw; (try dsimp only at hSw); go_simp; try with_reducible rfl)
              change wpAnyU _ _ _ _ _ _ _ _ (Act.put _ (some 85) _) _
              try (simp only [Act.put, List.setIfInBounds_toArray]; dsimp only [List.set_cons_zero, List.set_cons_succ])
              refine wpAnyU_take (i := 11) (v := ?_) rfl (by kernel_rfl) (by kernel_rfl) (by kernel_rfl) (by kernel_rfl) (fun _ _ _ h => h) (Or.inl ⟨by rfl, ?_⟩) hH ?_
              rotate_left
              · (intro w'' hSw; (have t0 := (blk_cell hSw.out.1 (j * 2)).trans HTJ.out.1; have t1 := (blk_cell hSw.out.1 (j * 2 + 1)).trans HTJ.out.2); go_simp; try with_reducible rfl)
              change wpAnyU _ _ _ _ _ _ _ _ (Act.put _ (some 86) _) _
              try (simp only [Act.put, List.setIfInBounds_toArray]; dsimp only [List.set_cons_zero, List.set_cons_succ])
              refine wpAnyU_take (i := 12) (v := ?_) rfl (by kernel_rfl) (by kernel_rfl) (by kernel_rfl) (by kernel_rfl) (fun _ _ _ h => h) (Or.inl ⟨by rfl, ?_⟩) hH ?_
              rotate_left
              · (intro w'' hSw; (try dsimp only at hSw); go_simp; try with_reducible rfl)
              change wpAnyU _ _ _ _ _ _ _ _ (Act.put _ (some 87) _) _
              try (simp only [Act.put, List.setIfInBounds_toArray]; dsimp only [List.set_cons_zero, List.set_cons_succ])
              refine wpAnyU_take (i := 13) (v := ?_) rfl (by kernel_rfl) (by kernel_rfl) (by kernel_rfl) (by kernel_rfl) (fun _ _ _ h => h) (Or.inl ⟨by rfl, ?_⟩) hH ?_
              rotate_left
              · (intro w'' hSw; (try dsimp only at hSw); go_simp; try with_reducible rfl)
              change wpAnyU _ _ _ _ _ _ _ _ (Act.put _ (some 88) _) _
              try (simp only [Act.put, List.setIfInBounds_toArray]; dsimp only [List.set_cons_zero, List.set_cons_succ])
              refine wpAnyU_take (i := 14) (v := ?_) rfl (by kernel_rfl) (by kernel_rfl) (by kernel_rfl) (by kernel_rfl) (fun _ _ _ h => h) (Or.inl ⟨by rfl, ?_⟩) hH ?_
              rotate_left
              · (intro w'' hSw; (try dsimp only at hSw); go_simp; try with_reducible rfl)
              change wpAnyU _ _ _ _ _ _ _ _ (Act.put _ (some 89) _) _
              try (simp only [Act.put, List.setIfInBounds_toArray]; dsimp only [List.set_cons_zero, List.set_cons_succ])
              refine wpAnyU_take (i := 15) (v := ?_) rfl (by kernel_rfl) (by kernel_rfl) (by kernel_rfl) (by kernel_rfl) (fun _ _ _ h => h) (Or.inl ⟨by rfl, ?_⟩) hH ?_
              rotate_left
              · (intro w'' hSw; (have t0 := (blk_cell hSw.out.1 (k * 2)).trans HTK.out.1; have t1 := (blk_cell hSw.out.1 (k * 2 + 1)).trans HTK.out.2); go_simp; try with_reducible rfl)
              change wpAnyU _ _ _ _ _ _ _ _ (Act.put _ (some 90) _) _
              try (simp only [Act.put, List.setIfInBounds_toArray]; dsimp only [List.set_cons_zero, List.set_cons_succ])
              refine wpAnyU_ready (rs := [16]) (by kernel_rfl) (by simp) ?_
              refine AllReadyU.cons rfl (fun Kn hKn => ?_) AllReadyU.nil
              go_simp
              go_at_call 28
              (with_reducible refine (HCF.out _ (HNJ.out.keep (keep_draw (fun _ => False) _) id)).mono ?_)
              rintro ee wq ⟨rfl, hkq⟩
              have HKQ := Lib.hid hkq
              clear hkq
              refine hKn.out _ _ ?_ (fun hH => ?_)
              · (obtain ⟨s0, s1, s2⟩ := hH.out; exact Lib.hid ⟨(HKQ.out.block _ (blk_lt s0) id).trans s0, (HKQ.out.block _ (blk_lt s1) id).trans s1, cell_kept HKQ.out s2 id⟩)
              clear hKn Kn
              try (simp only [Act.put, List.setIfInBounds_toArray]; dsimp only [List.set_cons_zero, List.set_cons_succ])
              refine wpAnyU_take (i := 17) (v := ?_) rfl (by kernel_rfl) (by kernel_rfl) (by kernel_rfl) (by kernel_rfl) (fun _ _ _ h => h) (Or.inl ⟨by rfl, ?_⟩) hH ?_
              rotate_left
              · (intro w'' hSw; (try dsimp only at hSw); go_simp; try with_reducible rfl)
              change wpAnyU _ _ _ _ _ _ _ _ (Act.put _ (some 92) _) _
              try (simp only [Act.put, List.setIfInBounds_toArray]; dsimp only [List.set_cons_zero, List.set_cons_succ])
              refine wpAnyU_done (by kernel_rfl) ?_ _
              cases cf with
              | true =>
                have HCP := Lib.hid (checkP_bad HARG.out hlt (badAt_clash HSE.out hjk HCL.out))
                go_wp2_with fail
                go_ret
                exact ⟨by rw [HCP.out]; rfl, Keep.trans HKj.out (Since.of (Keep.trans (keep_draw _ wj) HKQ.out))⟩
              | false =>
                go_wp2_with fail
                exact ⟨⟨j + 1, by omega, by go_num, Lib.hid ⟨Keep.trans HJ.out.1 (Keep.trans (keep_draw _ wj) HKQ.out), fun i hi => by rcases Nat.lt_succ_iff_lt_or_eq.1 hi with h9 | rfl; exact HJ.out.2 i h9; exact HCL.out⟩⟩, by simp [RowKit.intOf]; omega⟩
            · have c8 : (lj == lk) = false := by simpa using hll
              have HCL := Lib.hid (show clashAt T.spans loc k j = false from by unfold clashAt; rw [HLJ.out, HLK.out, c8]; rfl)
              clear hll
              go_wp2_with fail
              go_quiet (fail)
              go_wp2_with fail
              exact ⟨⟨j + 1, by omega, by go_num, Lib.hid ⟨Keep.trans HJ.out.1 (keep_drewN _ _ _), fun i hi => by rcases Nat.lt_succ_iff_lt_or_eq.1 hi with h9 | rfl; exact HJ.out.2 i h9; exact HCL.out⟩⟩, by simp [RowKit.intOf]; omega⟩
          · have hb2 : decide (j < k) = false := by simpa using hjk
            obtain rfl : j = k := by omega
            have HBG := Lib.hid (show badAt T.spans rg st loc j = false from badAt_good HSE.out (by rw [HLK.out]; have h9 := c6; simp at h9; exact h9) (by rw [HLK.out]; have h9 := c7; simp at h9; exact h9) HJ.out.2)
            go_wp2_with fail
            exact ⟨⟨j + 1, by omega, by go_num, Lib.hid ⟨Keep.trans HW.out.1 HJ.out.1, fun i hi => by rcases Nat.lt_succ_iff_lt_or_eq.1 hi with h9 | rfl; exact HW.out.2 i h9; exact HBG.out⟩⟩, by simp [RowKit.intOf]; omega⟩
    · have hb1 : decide (k < L) = false := by simpa using hlt
      obtain rfl : k = L := by omega
      have HCP := Lib.hid (checkP_good HARG.out HW.out.2)
      go_wp2_with fail
      go_ret
      exact ⟨by rw [HCP.out]; rfl, Keep.trans HK3.out (Since.of HW.out.1)⟩
end
end Go.Proofs.YtnbpgipbfejllaaDoor
