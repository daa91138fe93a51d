/- RegsFewest: the walk. -/
import Derived.Test.YtnbpgipbfejllaaDoorMG61
import Derived.Test.YtnbpgipbfejllaaDoorMG63
import Derived.Test.YtnbpgipbfejllaaDoorMG44
import Derived.Deep.CutRange
import Derived.Deep.CutBlock
namespace Go.Proofs.YtnbpgipbfejllaaDoor
open Go.RowKit Go.Lib
set_option linter.unusedVariables false
set_option linter.unusedSimpArgs false

theorem spans_getD {T : TR} {k : Nat} (hk : k < T.ins.length) : T.spans.getD k (0, 0) = T.span k := by
  unfold TR.spans
  rw [List.getD_eq_getElem?_getD, List.getElem?_map, List.getElem?_range hk]
  rfl
theorem spanOK {P : Nat} {T : TR} (h : RightT P T) : SpanOK T.spans T.on T.ins.length := by
  refine ⟨fun k hk hn => ?_, fun k hk hn => ?_⟩
  · rw [spans_getD hk] at hn ⊢
    unfold TR.span at hn ⊢
    by_cases h1 : (T.at_ k).op = 1
    · have ho := ((h.good.shape k hk).1.p1 h1).2.1
      rw [if_pos h1, if_neg (by unfold TR.on; rw [ho]; decide)]
    · rw [if_neg h1] at hn ⊢
      by_cases h2 : (T.usesTo k T.ins.length).length = 0
      · rw [if_pos h2] at hn; exact absurd rfl hn
      · rw [if_neg h2] at hn ⊢
        unfold TR.on
        cases ho : (T.at_ k).once with
        | true => rw [if_pos rfl, if_pos rfl]
        | false => rw [if_neg (by decide), if_neg (by decide)]
  · rw [spans_getD hk] at hn ⊢
    unfold TR.span at hn ⊢
    have hp := h.par
    have hp1 := h.p1.1
    by_cases h1 : (T.at_ k).op = 1
    · have hkP := (h.op1 hk).1 h1
      rw [if_pos h1]
      show (k : Int) < (T.ins.length : Int) - 1
      omega
    · rw [if_neg h1] at hn ⊢
      by_cases h2 : (T.usesTo k T.ins.length).length = 0
      · rw [if_pos h2] at hn; exact absurd rfl hn
      · rw [if_neg h2] at hn ⊢
        split
        · show (0 : Int) < (T.ins.length : Int) - 1
          omega
        · have hm : (T.usesTo k T.ins.length).getD ((T.usesTo k T.ins.length).length - 1) 0 ∈ T.usesTo k T.ins.length := getD_mem (by omega)
          have := (span_uses h hk hm).1
          show (k : Int) < (((T.usesTo k T.ins.length).getD ((T.usesTo k T.ins.length).length - 1) 0 : Nat) : Int)
          omega
theorem cntTo_succ (S : List (Int × Int)) (p k : Nat) : cntTo S p (k + 1) = cntTo S p k + if inS (S.getD k (0, 0)) p then 1 else 0 := by
  unfold cntTo
  rw [List.range_succ, List.countP_append]
  simp [List.countP_cons]
theorem cntTo_le (S : List (Int × Int)) (p k : Nat) : cntTo S p k ≤ k := by
  unfold cntTo
  have := List.countP_le_length (p := fun j => inS (S.getD j (0, 0)) p) (l := List.range k)
  rw [List.length_range] at this
  exact this
theorem locAll_snoc : ∀ (l : List Int) (a : Int), 0 ≤ a + 1 → locAll (l ++ [a]) = max (locAll l) (a + 1)
  | [], a, h => by unfold locAll; simp [locAll]; omega
  | b :: l, a, h => by rw [List.cons_append, locAll, locAll, locAll_snoc l a h]; omega
theorem most_bound (S : List (Int × Int)) (N k : Nat) (hk : k ≤ N) : mostTo S N k ≤ N := most_le S N N (fun p _ => cntTo_le S p N) k hk
set_option maxRecDepth 100000 in
set_option maxHeartbeats 16000000 in
theorem fewestlaw_any (w : World) (hn : NB w) (ht : TBW w) {A : Option Addr} {nl cl : Nat} {xs : List Int} (hA : IntsAt w A nl xs) (hnl : nl ≤ 140737488351232) (once : Int) (n : Nat) (hn2 : n < 256) :
    Calls Tryd.prog 6 #[.agg #[.slice A nl cl, .int .i64 once, .int .u8 (n : Int)]] w fun e w' => e = .returned (.bool true) ∧ Since w.heap.size w w' := by
  have HNB := Lib.hid hn
  have HTB := Lib.hid ht
  have HP1 := Lib.hid ht.pos
  have HK0 := Lib.hid ((Keep.refl (fun _ => False) w).alloc' (.cells #[.slice A nl cl, .int .i64 once, .int .u8 (n : Int)] 24))
  have HB0 := Lib.hid (heap_alloc_new w (.cells #[.slice A nl cl, .int .i64 once, .int .u8 (n : Int)] 24))
  have HPA := Lib.hid (fun W (hk : Since w.heap.size w W) => parts_any W (cl := cl) (cells_since hA hk) hnl once n hn2)
  obtain ⟨kn, hkn⟩ : ∃ kn : Int, 1 + ((n % 16 : Nat) : Int) = kn := ⟨_, rfl⟩
  have HKN := Lib.hid (show 1 ≤ kn ∧ kn ≤ 16 from by have := Nat.mod_lt n (show 0 < 16 by decide); omega)
  rw [hkn] at HPA
  have HSN := Lib.hid (sanity_any (w.alloc (.cells #[.slice A nl cl, .int .i64 once, .int .u8 (n : Int)] 24)) (hn.keep HK0.out id) (ht.keep HK0.out id))
  clear hn ht hA hnl hn2 hkn
  go_enter Tryd.func6, Tryd.ntmps6
  go_upto_region 1 with (fail)
  obtain ⟨w1, hw1⟩ : ∃ V : World, w.alloc (.cells #[.slice A nl cl, .int .i64 once, .int .u8 (n : Int)] 24) = V := ⟨_, rfl⟩
  obtain ⟨q, hq⟩ : ∃ q, w.heap.size = q := ⟨_, rfl⟩
  have HSZ := Lib.hid (show w1.heap.size = q + 1 by rw [← hw1, ← hq]; simp)
  rw [hw1] at HK0 HB0 HSN
  rw [hq] at HB0
  rw [hw1, hq]
  have HQ := Lib.hid hq
  clear hw1 hq
  go_wp2_with fail
  ((with_reducible refine HSN.out.mono ?_); rintro ee w2 ⟨rfl, hk2⟩)
  have HK2 := Lib.hid (show Since w.heap.size w w2 from Keep.trans (Since.of HK0.out) (Since.mono hk2 HK0.out.size))
  have hb2 := (hk2.block q (by have := HSZ.out; omega) (by have := HSZ.out; omega)).trans HB0.out
  have HPT := Lib.hid (HPA.out w2 HK2.out)
  have c0 := (blk_cell hb2 0).trans rfl
  have c1 := (blk_cell hb2 1).trans rfl
  have c2 := (blk_cell hb2 2).trans rfl
  clear hk2 hb2 HSN HPA
  go_wp2_with fail
  ((with_reducible refine HPT.out.mono ?_); rintro ee w3 ⟨v, P, T, rfl, hR, hta, hk3⟩)
  obtain ⟨A, ca, E, ce, R, X, rfl, hta2⟩ := hta.opened
  obtain ⟨N, hN⟩ : ∃ N, T.ins.length = N := ⟨_, rfl⟩
  obtain ⟨M, hM⟩ : ∃ M, T.exits.length = M := ⟨_, rfl⟩
  have HR := Lib.hid hR
  have HTA := Lib.hid hta2
  have HK3 := Lib.hid (Keep.trans HK2.out (Since.mono hk3 HK2.out.size))
  have HN := Lib.hid hN
  have HMM := Lib.hid hM
  have hfew := hR.few
  have hpar := hR.par
  unfold trV
  rw [hN] at hfew hpar
  rw [hN, hM]
  clear hR hta hta2 hk3 hN hM HPT c0 c1 c2
  go_upto_region 3 with (fail)
  have hk4 := (Keep.refl (fun _ => False) w3).alloc' (.cells #[.int .i64 T.pf, .int .i64 T.pl, .slice A N ca, .slice E M ce] 31)
  have hb4 := heap_alloc_new w3 (.cells #[.int .i64 T.pf, .int .i64 T.pl, .slice A N ca, .slice E M ce] 31)
  obtain ⟨w4, hw4⟩ : ∃ V : World, w3.alloc (.cells #[.int .i64 T.pf, .int .i64 T.pl, .slice A N ca, .slice E M ce] 31) = V := ⟨_, rfl⟩
  obtain ⟨q4, hq4⟩ : ∃ q4, w3.heap.size = q4 := ⟨_, rfl⟩
  rw [hw4] at hk4 hb4
  rw [hq4] at hb4
  rw [hw4, hq4]
  have HB4 := Lib.hid hb4
  have HT4 := Lib.hid (HTA.out.quiet hk4)
  have HK4 := Lib.hid (Keep.trans HK3.out (Since.of hk4))
  have hk1 := HKN.out
  have HFW := Lib.hid (fewest (n := kn) (spanOK HR.out) (by rw [HN.out]; exact hfew) (by omega))
  have HAV := Lib.hid (allocP_inv (n := kn) (spanOK HR.out) (by rw [HN.out]; exact hfew) (by omega))
  have HSL := Lib.hid (show T.spans.length = N from by unfold TR.spans; rw [List.length_map, List.length_range, HN.out])
  rw [HN.out] at HFW HAV
  obtain ⟨⟨l, st⟩, hst⟩ : ∃ s, allocP T.spans T.on kn N = s := ⟨_, rfl⟩
  rw [hst] at HFW HAV
  have HA1 := Lib.hid (show ∀ W, Since w.heap.size w W → TA W A ca E ce R X T → Calls Tryd.prog 12 #[.agg #[.int .i64 T.pf, .int .i64 T.pl, .slice A N ca, .slice E M ce], .int .i64 kn] W (fun e w' => ∃ g, e = .returned (.tuple #[.agg #[.int .i64 kn, .int .i64 st, .slice (some ⟨g, 0, none⟩) N N], .int .i64 0]) ∧ w'.heap[g]? = some (.cells (ints l).toArray 3 (0, 0)) ∧ W.heap.size ≤ g ∧ Since W.heap.size W w') from fun W hk hT => by
    have h9 := alloc_any hT HR.out (HNB.out.since hk HNB.out.pos) (HTB.out.since hk HP1.out) kn hk1.1 hk1.2
    unfold trV at h9
    rw [HN.out, HMM.out, hst] at h9
    exact h9)
  have HSP := Lib.hid (show ∀ W, Since w.heap.size w W → TA W A ca E ce R X T → Calls Tryd.prog 15 #[.agg #[.int .i64 T.pf, .int .i64 T.pl, .slice A N ca, .slice E M ce]] W (fun e w' => ∃ g, e = .returned (.slice (some ⟨g, 0, none⟩) N N) ∧ w'.heap[g]? = some (.cells (row2 T.spans).toArray 34 (0, 0)) ∧ W.heap.size ≤ g ∧ Since W.heap.size W w') from fun W hk hT => by
    have h9 := spans_any hT HR.out (HNB.out.since hk HNB.out.pos)
    unfold trV at h9
    rw [HN.out, HMM.out] at h9
    exact h9)
  have d0 := (blk_cell hb4 0).trans rfl
  have d1 := (blk_cell hb4 1).trans rfl
  have d2 := (blk_cell hb4 2).trans rfl
  have d3 := (blk_cell hb4 3).trans rfl
  clear hk4 hb4 hw4 hq4 HTA hst hk1
  go_wp2_with fail
  ((with_reducible refine (HA1.out _ HK4.out HT4.out).mono ?_); rintro ee w5 ⟨gA, rfl, hgA, _, hk5⟩)
  have HA5 := Lib.hid hgA
  have HK5 := Lib.hid (Keep.trans HK4.out (Since.mono hk5 HK4.out.size))
  have HB5 := Lib.hid ((hk5.block q4 (blk_lt HB4.out) (Nat.not_le_of_lt (blk_lt HB4.out))).trans HB4.out)
  have HT5 := Lib.hid (HT4.out.since hk5)
  clear hgA hk5 d0 d1 d2 d3
  go_upto_region 4 with (fail)
  have hk6 := (Keep.refl (fun _ => False) w5).alloc' (.cells #[.int .i64 kn, .int .i64 st, .slice (some ⟨gA, 0, none⟩) N N] 36)
  have hb6 := heap_alloc_new w5 (.cells #[.int .i64 kn, .int .i64 st, .slice (some ⟨gA, 0, none⟩) N N] 36)
  obtain ⟨w6, hw6⟩ : ∃ V : World, w5.alloc (.cells #[.int .i64 kn, .int .i64 st, .slice (some ⟨gA, 0, none⟩) N N] 36) = V := ⟨_, rfl⟩
  obtain ⟨q6, hq6⟩ : ∃ q6, w5.heap.size = q6 := ⟨_, rfl⟩
  rw [hw6] at hk6 hb6
  rw [hq6] at hb6
  rw [hw6, hq6]
  have HB6 := Lib.hid hb6
  have HK6 := Lib.hid (Keep.trans HK5.out (Since.of hk6))
  have HB46 := Lib.hid ((hk6.block q4 (blk_lt HB5.out) id).trans HB5.out)
  have HA6 := Lib.hid ((hk6.block gA (blk_lt HA5.out) id).trans HA5.out)
  have HT6 := Lib.hid (HT5.out.quiet hk6)
  have d0 := (blk_cell HB46.out 0).trans rfl
  have d1 := (blk_cell HB46.out 1).trans rfl
  have d2 := (blk_cell HB46.out 2).trans rfl
  have d3 := (blk_cell HB46.out 3).trans rfl
  clear hk6 hb6 hw6 hq6
  go_wp2_with fail
  ((with_reducible refine (HSP.out _ HK6.out HT6.out).mono ?_); rintro ee w7 ⟨gS, rfl, hgS, _, hk7⟩)
  have HS7 := Lib.hid hgS
  have HK7 := Lib.hid (Keep.trans HK6.out (Since.mono hk7 HK6.out.size))
  have HB67 := Lib.hid ((hk7.block q6 (blk_lt HB6.out) (Nat.not_le_of_lt (blk_lt HB6.out))).trans HB6.out)
  have HB47 := Lib.hid ((hk7.block q4 (blk_lt HB46.out) (Nat.not_le_of_lt (blk_lt HB46.out))).trans HB46.out)
  have HA7 := Lib.hid ((hk7.block gA (blk_lt HA6.out) (Nat.not_le_of_lt (blk_lt HA6.out))).trans HA6.out)
  have d2 := (blk_cell HB47.out 2).trans rfl
  clear hgS hk7 d0 d1 d3
  go_wp2_with fail
  clear d2
  go_loopw [9, 36] (fun o i wr => ∃ p : Nat, p ≤ N ∧ o = .int .i64 ((mostTo T.spans N p : Nat) : Int) ∧ i = .int .i64 (p : Int) ∧ Hid (Since w7.heap.size w7 wr)) (fun _ i _ => N + 1 - (RowKit.intOf i).toNat)
  case atStart => exact ⟨0, Nat.zero_le _, rfl, rfl, Lib.hid (Keep.refl _ _)⟩
  case round =>
    obtain ⟨p, hp, rfl, rfl, HW⟩ := hrel
    obtain ⟨wo, rfl⟩ : ∃ wo : World, wo = wr := ⟨_, rfl⟩
    have HMB := Lib.hid (most_bound T.spans N p hp)
    obtain ⟨mo, hmo⟩ : ∃ mo, mostTo T.spans N p = mo := ⟨_, rfl⟩
    rw [hmo] at HMB
    rw [hmo]
    have HMO := Lib.hid hmo
    clear hmo
    by_cases hlt : p < N
    · have hb1 : decide (p < N) = true := by simpa using hlt
      go_wp2_with fail
      go_loopw [11, 41] (fun o i wr => ∃ k : Nat, k ≤ N ∧ o = .int .i64 ((cntTo T.spans p k : Nat) : Int) ∧ i = .int .i64 (k : Int) ∧ Hid (Since w7.heap.size w7 wr)) (fun _ i _ => N + 1 - (RowKit.intOf i).toNat)
      case atStart => exact ⟨0, Nat.zero_le _, rfl, rfl, HW⟩
      case round =>
        obtain ⟨k, hk, rfl, rfl, HV⟩ := hrel
        obtain ⟨wi, rfl⟩ : ∃ wi : World, wi = wr := ⟨_, rfl⟩
        have HCB := Lib.hid (cntTo_le T.spans p k)
        have HCS := Lib.hid (cntTo_succ T.spans p k)
        obtain ⟨cn, hcn⟩ : ∃ cn, cntTo T.spans p k = cn := ⟨_, rfl⟩
        rw [hcn] at HCB HCS
        rw [hcn]
        have HCN := Lib.hid hcn
        clear hcn
        by_cases hkl : k < N
        · have hb2 : decide (k < N) = true := by simpa using hkl
          have hkI : (k : Int) < (N : Int) := by omega
          have hsp := (HV.out.block gS (blk_lt HS7.out) (Nat.not_le_of_lt (blk_lt HS7.out))).trans HS7.out
          have hrl := row2_at T.spans k (by rw [HSL.out]; exact hkl)
          obtain ⟨⟨sx, sy⟩, hsxy⟩ : ∃ s, T.spans.getD k (0, 0) = s := ⟨_, rfl⟩
          rw [hsxy] at hrl HCS
          have s0 : wi.cell? ⟨gS, k * 2, none⟩ = some (.int .i64 sx) := (blk_cell hsp (k * 2)).trans (List.getElem?_toArray.trans hrl.1)
          have s1 : wi.cell? ⟨gS, k * 2 + 1, none⟩ = some (.int .i64 sy) := (blk_cell hsp (k * 2 + 1)).trans (List.getElem?_toArray.trans hrl.2)
          clear hsp hrl hsxy
          go_upto_region 15 with (fail)
          have hk8 := (Keep.refl (fun _ => False) wi).alloc' (.cells #[.int .i64 sx, .int .i64 sy] 34)
          have hb8 := heap_alloc_new wi (.cells #[.int .i64 sx, .int .i64 sy] 34)
          obtain ⟨w8, hw8⟩ : ∃ V : World, wi.alloc (.cells #[.int .i64 sx, .int .i64 sy] 34) = V := ⟨_, rfl⟩
          obtain ⟨b8, hq8⟩ : ∃ b8, wi.heap.size = b8 := ⟨_, rfl⟩
          rw [hw8] at hk8 hb8
          rw [hq8] at hb8
          rw [hw8, hq8]
          have HV8 := Lib.hid (Keep.trans HV.out (Since.of hk8))
          have e0 := (blk_cell hb8 0).trans rfl
          have e1 := (blk_cell hb8 1).trans rfl
          clear hk8 hb8 hw8 hq8 s0 s1
          go_cut [59] from 42 to 62 (fun t wx => t = .bool (inS (sx, sy) p) ∧ Hid (w8 = wx))
          case first =>
            by_cases h1 : 0 ≤ sx
            · have c1 : decide (0 ≤ sx) = true := by simpa using h1
              by_cases h2 : sx ≤ (p : Int)
              · have c2 : decide (sx ≤ (p : Int)) = true := by simpa using h2
                go_wp2_with fail
                go_meet
                exact ⟨by unfold inS; simp only [c1, c2, Bool.true_and], Lib.hid rfl⟩
              · have c2 : decide (sx ≤ (p : Int)) = false := by simpa using h2
                go_wp2_with fail
                go_meet
                exact ⟨by unfold inS; simp only [c1, c2, Bool.true_and, Bool.false_and], Lib.hid rfl⟩
            · have c1 : decide (0 ≤ sx) = false := by simpa using h1
              go_wp2_with fail
              go_meet
              exact ⟨by unfold inS; simp only [c1, Bool.false_and], Lib.hid rfl⟩
          case rest =>
            obtain ⟨rfl, hcc⟩ := hcut
            obtain rfl := hcc.out
            clear e0 e1
            obtain ⟨bb, hbb⟩ : ∃ bb, inS (sx, sy) p = bb := ⟨_, rfl⟩
            rw [hbb] at HCS
            rw [hbb]
            have hcn60 : cn ≤ 60 := Nat.le_trans HCB.out (by omega)
            cases bb with
            | true =>
              have HC1 := Lib.hid (show cntTo T.spans p (k + 1) = cn + 1 from by rw [HCS.out]; rfl)
              go_wp2_with fail
              exact ⟨⟨k + 1, by omega, by rw [HC1.out]; go_num, by go_num, HV8⟩, by simp [RowKit.intOf]; omega⟩
            | false =>
              have HC1 := Lib.hid (show cntTo T.spans p (k + 1) = cn from by rw [HCS.out]; rfl)
              go_wp2_with fail
              exact ⟨⟨k + 1, by omega, by rw [HC1.out], by go_num, HV8⟩, by simp [RowKit.intOf]; omega⟩
        · have hb2 : decide (k < N) = false := by simpa using hkl
          obtain rfl : k = N := by omega
          have HM1 := Lib.hid (show mostTo T.spans k (p + 1) = max mo cn from by rw [mostTo, HMO.out, HCN.out])
          have hmax : ∀ V, (Builtin.max_ #[3, 3] 3 #[.int .i64 (mo : Int), .int .i64 (cn : Int)]).run Tryd.prog V = .ok (.int .i64 ((max mo cn : Nat) : Int)) V := fun V => by rw [run_max2, show max (mo : Int) (cn : Int) = ((max mo cn : Nat) : Int) from by omega]
          go_wp2_with fail
          exact ⟨⟨p + 1, by omega, by rw [HM1.out], by go_num, HV⟩, by simp [RowKit.intOf]; omega⟩
    · have hb1 : decide (p < N) = false := by simpa using hlt
      obtain rfl : p = N := by omega
      obtain ⟨hf1, hf2⟩ := HFW.out
      try dsimp only at hf1 hf2
      rw [HMO.out] at hf1 hf2
      have HF1 := Lib.hid hf1
      have hmp : mo ≤ p := HMB.out
      have hlen : l.length = p := HAV.out.ai.len
      have HLN := Lib.hid hlen
      have HR9 := Lib.hid ((HW.out.block q6 (blk_lt HB67.out) (Nat.not_le_of_lt (blk_lt HB67.out))).trans HB67.out)
      have HA9 := Lib.hid ((HW.out.block gA (blk_lt HA7.out) (Nat.not_le_of_lt (blk_lt HA7.out))).trans HA7.out)
      have hw1 : IntKind.i64.wrap ((mo : Int) - kn) = (mo : Int) - kn := by have := HKN.out; rw [IntKind.wrap_i64]; omega
      have hmx2 : ∀ V, (Builtin.max_ #[3, 3] 3 #[.int .i64 0, .int .i64 ((mo : Int) - kn)]).run Tryd.prog V = .ok (.int .i64 st) V := fun V => by rw [run_max2, hf2]
      have HMX2 := Lib.hid hmx2
      have HWR1 := Lib.hid hw1
      have r2 := (blk_cell HR9.out 2).trans rfl
      clear hf1 hf2 hlen hmx2 hw1
      go_wp2_with fail
      clear r2
      go_loopw [14, 70] (fun o i wr => ∃ j : Nat, j ≤ p ∧ o = .int .i64 (locAll (l.take j)) ∧ i = .int .i64 (j : Int) ∧ Hid (wo = wr)) (fun _ i _ => p + 1 - (RowKit.intOf i).toNat)
      case atStart => exact ⟨0, Nat.zero_le _, rfl, rfl, Lib.hid rfl⟩
      case round =>
        obtain ⟨j, hj, rfl, rfl, HJ⟩ := hrel
        obtain rfl := HJ.out
        by_cases hjl : j < p
        · have hb2 : decide (j < p) = true := by simpa using hjl
          have hjI : (j : Int) < (p : Int) := by omega
          have l0 := ints_cell HA9.out (j := j) (by rw [HLN.out]; exact hjl) (-1)
          have hlo := HAV.out.ai.low j
          have hhi := HAV.out.ai.lt60 hfew j
          have hsn : locAll (l.take (j + 1)) = max (locAll (l.take j)) (l.getD j (-1) + 1) := by
            rw [List.take_add_one, List.getElem?_eq_getElem (by rw [HLN.out]; exact hjl), Option.toList_some, locAll_snoc _ _ (by
              have h9 := hlo
              try dsimp only at h9
              rw [List.getD_eq_getElem?_getD, List.getElem?_eq_getElem (by rw [HLN.out]; exact hjl)] at h9
              simp at h9
              omega), List.getD_eq_getElem?_getD, List.getElem?_eq_getElem (by rw [HLN.out]; exact hjl)]
            rfl
          try dsimp only at hlo hhi
          obtain ⟨lj, hlj⟩ : ∃ lj, l.getD j (-1) = lj := ⟨_, rfl⟩
          obtain ⟨la, hla⟩ : ∃ la, locAll (l.take j) = la := ⟨_, rfl⟩
          rw [hlj] at l0 hlo hhi hsn
          rw [hla] at hsn
          rw [hla]
          have HSN := Lib.hid hsn
          have hw2 : IntKind.i64.wrap (lj + 1) = lj + 1 := by rw [IntKind.wrap_i64]; omega
          have hmax : ∀ V, (Builtin.max_ #[3, 3] 3 #[.int .i64 la, .int .i64 (lj + 1)]).run Tryd.prog V = .ok (.int .i64 (max la (lj + 1))) V := fun V => by rw [run_max2]
          clear hlj hla hsn
          go_wp2_with fail
          exact ⟨⟨j + 1, by omega, by rw [HSN.out], by go_num, by first | exact Lib.hid rfl | exact Lib.hid trivial⟩, by simp [RowKit.intOf]; omega⟩
        · have hb2 : decide (j < p) = false := by simpa using hjl
          obtain rfl : j = p := by omega
          rw [show locAll (l.take j) = (mo : Int) from by rw [List.take_of_length_le (by rw [HLN.out]; exact Nat.le_refl _)]; exact HF1.out]
          have r1 := (blk_cell HR9.out 1).trans rfl
          have r0 := (blk_cell HR9.out 0).trans rfl
          have hw1 := HWR1.out
          have hmx2 := HMX2.out
          go_wp2_with fail
          go_ret
          exact ⟨rfl, Keep.trans HK7.out (Since.mono HW.out HK7.out.size)⟩
end Go.Proofs.YtnbpgipbfejllaaDoor
