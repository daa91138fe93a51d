/- regs: a span contains the uses of its value, plain. -/
import Derived.Test.YtnbpgipbfejllaaDoorMG42
import Derived.Test.YtnbpgipbfejllaaDoorMG54
import Derived.Test.YtnbpgipbfejllaaDoorMG59
import Derived.Test.YtnbpgipbfejllaaDoorMG31
import Derived.Deep.CutRange
import Derived.Deep.CutBlock
namespace Go.Proofs.YtnbpgipbfejllaaDoor
open Go.RowKit Go.Lib
set_option linter.unusedVariables false
set_option linter.unusedSimpArgs false

theorem le_last : ∀ (l : List Nat), l.Pairwise (· < ·) → ∀ u ∈ l, u ≤ l.getD (l.length - 1) 0
  | [], _, u, hu => by cases hu
  | [a], _, u, hu => by
    obtain rfl := List.mem_singleton.1 hu
    exact Nat.le_refl _
  | a :: b :: l, h, u, hu => by
    have e : (a :: b :: l).getD ((a :: b :: l).length - 1) 0 = (b :: l).getD ((b :: l).length - 1) 0 := by
      simp [List.getD_cons_succ]
    rw [e]
    have hp := List.pairwise_cons.1 h
    rcases List.mem_cons.1 hu with rfl | hu
    · exact Nat.le_trans (Nat.le_of_lt (hp.1 b (.head _))) (le_last (b :: l) hp.2 b (.head _))
    · exact le_last (b :: l) hp.2 u hu
theorem usedAt_after {P : Nat} {T : TR} (h : RightT P T) {v k : Nat} (hk : k < T.ins.length) (hu : T.usedAt v k = true) : v < k := by
  unfold TR.usedAt at hu
  rw [Bool.or_eq_true] at hu
  rcases hu with hu | hu
  · obtain ⟨u, e, hlt, _⟩ := (h.good.shape k hk).1.uses_vb _ (of_decide_eq_true hu)
    omega
  · rw [Bool.and_eq_true] at hu
    obtain ⟨h1, h2⟩ := hu
    rw [names_rows] at h2
    obtain ⟨l, hl, hv⟩ := List.mem_flatten.1 (of_decide_eq_true h2)
    obtain ⟨f, hf, rfl⟩ := List.mem_map.1 hl
    rcases ((h.good.exit k hk (of_decide_eq_true h1)).2.each f hf).2.2.2 _ hv with e | ⟨u, e, hlt, _⟩
    · omega
    · omega
theorem uses_mem {T : TR} {v N u : Nat} : u ∈ T.usesTo v N ↔ u < N ∧ T.usedAt v u = true := by
  unfold TR.usesTo
  simp [List.mem_filter]
theorem uses_sorted (T : TR) (v N : Nat) : (T.usesTo v N).Pairwise (· < ·) := List.Pairwise.filter _ List.pairwise_lt_range
/-- What RegsSpans asks of one instruction. -/
theorem span_uses {P : Nat} {T : TR} (h : RightT P T) {k u : Nat} (hk : k < T.ins.length) (hu : u ∈ T.usesTo k T.ins.length) : k < u ∧ (u : Int) ≤ (T.span k).2 := by
  obtain ⟨h1, h2⟩ := uses_mem.1 hu
  refine ⟨usedAt_after h h1 h2, ?_⟩
  unfold TR.span
  split
  · show (u : Int) ≤ (T.ins.length : Int) - 1
    omega
  · rw [if_neg (fun e => by rw [List.length_eq_zero_iff.1 e] at hu; cases hu)]
    split
    · show (u : Int) ≤ (T.ins.length : Int) - 1
      omega
    · have := le_last _ (uses_sorted T k T.ins.length) u hu
      show (u : Int) ≤ (((T.usesTo k T.ins.length).getD ((T.usesTo k T.ins.length).length - 1) 0 : Nat) : Int)
      omega
theorem span_once {P : Nat} {T : TR} (h : RightT P T) {k : Nat} (hk : k < T.ins.length) (ho : (T.at_ k).once = true) (h0 : 0 ≤ (T.span k).1) : T.span k = (0, (T.ins.length : Int) - 1) := by
  have hne : ¬ (T.at_ k).op = 1 := fun e => by
    have := ((h.good.shape k hk).1.p1 e).2.1
    rw [ho] at this
    cases this
  unfold TR.span at h0 ⊢
  rw [if_neg hne] at h0 ⊢
  split
  · rename_i e
    rw [if_pos e] at h0
    exact absurd h0 (by show ¬ (0 : Int) ≤ -1; decide)
  · first | rfl | rw [if_pos ho]
theorem span_has {T : TR} {k : Nat} (hne : ¬ (T.at_ k).op = 1) : 0 < (T.usesTo k T.ins.length).length ↔ 0 ≤ (T.span k).1 := by
  unfold TR.span
  rw [if_neg hne]
  split
  · rename_i e
    rw [e]
    constructor
    · intro h; omega
    · intro h; exact absurd h (by show ¬ (0 : Int) ≤ -1; decide)
  · rename_i e
    constructor
    · intro _
      split
      · exact Int.le_refl _
      · show (0 : Int) ≤ (k : Int); omega
    · intro _; omega
end Go.Proofs.YtnbpgipbfejllaaDoor
/- RegsSpans: the walk. -/
namespace Go.Proofs.YtnbpgipbfejllaaDoor
open Go.RowKit Go.Lib
set_option linter.unusedVariables false
set_option linter.unusedSimpArgs false

set_option maxRecDepth 100000 in
set_option maxHeartbeats 16000000 in
theorem spanslaw_any (w : World) (hn : NB w) (ht : TBW w) {A : Option Addr} {nl cl : Nat} {xs : List Int} (hA : IntsAt w A nl xs) (hnl : nl ≤ 140737488351232) (once : Int) (n : Nat) (hn2 : n < 256) :
    Calls Tryd.prog 8 #[.agg #[.slice A nl cl, .int .i64 once, .int .u8 (n : Int)]] w fun e w' => e = .returned (.bool true) ∧ Since w.heap.size w w' := by
  have HNB := Lib.hid hn
  have HTB := Lib.hid ht
  have HP1 := Lib.hid ht.pos
  have HK0 := Lib.hid ((Keep.refl (fun _ => False) w).alloc' (.cells #[.slice A nl cl, .int .i64 once, .int .u8 (n : Int)] 24))
  have HB0 := Lib.hid (heap_alloc_new w (.cells #[.slice A nl cl, .int .i64 once, .int .u8 (n : Int)] 24))
  have HPA := Lib.hid (fun W (hk : Since w.heap.size w W) => parts_any W (cl := cl) (cells_since hA hk) hnl once n hn2)
  have HSN := Lib.hid (sanity_any (w.alloc (.cells #[.slice A nl cl, .int .i64 once, .int .u8 (n : Int)] 24)) (hn.keep HK0.out id) (ht.keep HK0.out id))
  clear hn ht hA hnl hn2
  go_enter Tryd.func8, Tryd.ntmps8
  go_upto_region 1 with (fail)
  obtain ⟨w1, hw1⟩ : ∃ V : World, w.alloc (.cells #[.slice A nl cl, .int .i64 once, .int .u8 (n : Int)] 24) = V := ⟨_, rfl⟩
  obtain ⟨q, hq⟩ : ∃ q, w.heap.size = q := ⟨_, rfl⟩
  have HSZ := Lib.hid (show w1.heap.size = q + 1 by rw [← hw1, ← hq]; simp)
  rw [hw1] at HK0 HB0 HSN
  rw [hq] at HB0
  rw [hw1, hq]
  have HQ := Lib.hid hq
  clear hw1 hq
  go_wp2_with fail
  ((with_reducible refine HSN.out.mono ?_); rintro ee w2 ⟨rfl, hk2⟩)
  have HK2 := Lib.hid (show Since w.heap.size w w2 from Keep.trans (Since.of HK0.out) (Since.mono hk2 HK0.out.size))
  have hb2 := (hk2.block q (by have := HSZ.out; omega) (by have := HSZ.out; omega)).trans HB0.out
  have HPT := Lib.hid (HPA.out w2 HK2.out)
  have c0 := (blk_cell hb2 0).trans rfl
  have c1 := (blk_cell hb2 1).trans rfl
  have c2 := (blk_cell hb2 2).trans rfl
  clear hk2 hb2 HSN HPA
  go_wp2_with fail
  ((with_reducible refine HPT.out.mono ?_); rintro ee w3 ⟨v, P, T, rfl, hR, hta, hk3⟩)
  obtain ⟨A, ca, E, ce, R, X, rfl, hta2⟩ := hta.opened
  obtain ⟨N, hN⟩ : ∃ N, T.ins.length = N := ⟨_, rfl⟩
  obtain ⟨M, hM⟩ : ∃ M, T.exits.length = M := ⟨_, rfl⟩
  have HR := Lib.hid hR
  have HTA := Lib.hid hta2
  have HK3 := Lib.hid (Keep.trans HK2.out (Since.mono hk3 HK2.out.size))
  have HN := Lib.hid hN
  have HMM := Lib.hid hM
  have hfew := hR.few
  have hpar := hR.par
  unfold trV
  rw [hN] at hfew hpar
  rw [hN, hM]
  clear hR hta hta2 hk3 hN hM HPT c0 c1 c2
  go_upto_region 3 with (fail)
  have hk4 := (Keep.refl (fun _ => False) w3).alloc' (.cells #[.int .i64 T.pf, .int .i64 T.pl, .slice A N ca, .slice E M ce] 31)
  have hb4 := heap_alloc_new w3 (.cells #[.int .i64 T.pf, .int .i64 T.pl, .slice A N ca, .slice E M ce] 31)
  obtain ⟨w4, hw4⟩ : ∃ V : World, w3.alloc (.cells #[.int .i64 T.pf, .int .i64 T.pl, .slice A N ca, .slice E M ce] 31) = V := ⟨_, rfl⟩
  obtain ⟨q4, hq4⟩ : ∃ q4, w3.heap.size = q4 := ⟨_, rfl⟩
  rw [hw4] at hk4 hb4
  rw [hq4] at hb4
  rw [hw4, hq4]
  have HB4 := Lib.hid hb4
  have HT4 := Lib.hid (HTA.out.quiet hk4)
  have HK4 := Lib.hid (Keep.trans HK3.out (Since.of hk4))
  have HSP := Lib.hid (show Calls Tryd.prog 15 #[.agg #[.int .i64 T.pf, .int .i64 T.pl, .slice A N ca, .slice E M ce]] w4 (fun e w' => ∃ g, e = .returned (.slice (some ⟨g, 0, none⟩) N N) ∧ w'.heap[g]? = some (.cells (row2 T.spans).toArray 34 (0, 0)) ∧ w4.heap.size ≤ g ∧ Since w4.heap.size w4 w') from by
    have h9 := spans_any HT4.out HR.out (HNB.out.since HK4.out HNB.out.pos)
    unfold trV at h9
    rw [HN.out, HMM.out] at h9
    exact h9)
  have d0 := (blk_cell hb4 0).trans rfl
  have d1 := (blk_cell hb4 1).trans rfl
  have d2 := (blk_cell hb4 2).trans rfl
  have d3 := (blk_cell hb4 3).trans rfl
  clear hk4 hb4 hw4 hq4 HTA
  go_wp2_with fail
  ((with_reducible refine HSP.out.mono ?_); rintro ee w5 ⟨gS, rfl, hgS, hgl, hk5⟩)
  have HS5 := Lib.hid hgS
  have HB5 := Lib.hid ((hk5.block q4 (blk_lt HB4.out) (Nat.not_le_of_lt (blk_lt HB4.out))).trans HB4.out)
  have HT5 := Lib.hid (HT4.out.since hk5)
  have HK5 := Lib.hid (Keep.trans HK4.out (Since.mono hk5 HK4.out.size))
  have d2 := (blk_cell HB5.out 2).trans rfl
  have hw1' : IntKind.i64.wrap ((N : Int) - 1) = (N : Int) - 1 := by rw [IntKind.wrap_i64]; omega
  clear hgS hgl hk5 d0 d1 d3 HSP
  go_wp2_with fail
  clear d2
  go_loopw [34] (fun i wr => ∃ k : Nat, k ≤ N ∧ i = .int .i64 (k : Int) ∧ Hid (Since w5.heap.size w5 wr)) (fun i _ => N + 1 - (RowKit.intOf i).toNat)
  case atStart => exact ⟨0, Nat.zero_le _, rfl, Lib.hid (Keep.refl _ _)⟩
  case round =>
    obtain ⟨k, hk, rfl, HW⟩ := hrel
    obtain ⟨wo, rfl⟩ : ∃ wo : World, wo = wr := ⟨_, rfl⟩
    by_cases hlt : k < N
    · have hb1 : decide (k < N) = true := by simpa using hlt
      have hkI : (k : Int) < (N : Int) := by omega
      have HKL := Lib.hid (show k < T.ins.length by rw [HN.out]; exact hlt)
      have HBo := Lib.hid ((HW.out.block q4 (blk_lt HB5.out) (Nat.not_le_of_lt (blk_lt HB5.out))).trans HB5.out)
      have HTo := Lib.hid (HT5.out.since HW.out)
      have HUS := Lib.hid (guses_any HTo.out HR.out k)
      unfold trV at HUS
      rw [HN.out, HMM.out] at HUS
      have d0 := (blk_cell HBo.out 0).trans rfl
      have d1 := (blk_cell HBo.out 1).trans rfl
      have d2 := (blk_cell HBo.out 2).trans rfl
      have d3 := (blk_cell HBo.out 3).trans rfl
      go_wp2_with fail
      ((with_reducible refine HUS.out.mono ?_); rintro ee w6 ⟨⟨Au, cu, rfl, hiu⟩, hk6⟩)
      have HMEM := Lib.hid (fun u (hu : u ∈ T.usesTo k T.ins.length) => span_uses HR.out HKL.out hu)
      have HONC := Lib.hid (span_once HR.out HKL.out)
      have HHAS := Lib.hid (fun h => span_has (T := T) (k := k) h)
      have HOPD := Lib.hid (show (T.at_ k).op = 1 → T.span k = ((k : Int), (N : Int) - 1) from fun h => by unfold TR.span; rw [if_pos h, HN.out])
      rw [HN.out] at HMEM HONC HHAS
      have HW6 := Lib.hid (show Since w5.heap.size w5 w6 from Keep.trans HW.out (Since.mono hk6 HW.out.size))
      have HB6 := Lib.hid ((hk6.block q4 (blk_lt HBo.out) (Nat.not_le_of_lt (blk_lt HBo.out))).trans HBo.out)
      have hsp := (HW6.out.block gS (blk_lt HS5.out) (Nat.not_le_of_lt (blk_lt HS5.out))).trans HS5.out
      have hrl := row2_at T.spans k (by unfold TR.spans; rw [List.length_map, List.length_range]; exact HKL.out)
      rw [show T.spans.getD k (0, 0) = T.span k from by unfold TR.spans; rw [List.getD_eq_getElem?_getD, List.getElem?_map, List.getElem?_range HKL.out]; rfl] at hrl
      obtain ⟨⟨sx, sy⟩, hsxy⟩ : ∃ s, T.span k = s := ⟨_, rfl⟩
      rw [hsxy] at hrl HONC HHAS HOPD HMEM
      have s0 : w6.cell? ⟨gS, k * 2, none⟩ = some (.int .i64 sx) := (blk_cell hsp (k * 2)).trans (List.getElem?_toArray.trans hrl.1)
      have s1 : w6.cell? ⟨gS, k * 2 + 1, none⟩ = some (.int .i64 sy) := (blk_cell hsp (k * 2 + 1)).trans (List.getElem?_toArray.trans hrl.2)
      obtain ⟨us, hus⟩ : ∃ us, T.usesTo k N = us := ⟨_, rfl⟩
      have hus2 := hus
      rw [hus] at hiu HMEM HHAS
      rw [hus]
      obtain ⟨L, hL⟩ : ∃ L, us.length = L := ⟨_, rfl⟩
      rw [hL] at hiu HHAS
      rw [hL]
      have HLL := Lib.hid hL
      have hL60 : L ≤ 60 := by rw [← hL]; exact Nat.le_trans (by rw [← hus2]; exact usesTo_len T k N) hfew
      have HIU := Lib.hid hiu
      have HTB6 := Lib.hid (HTo.out.since hk6)
      clear hiu hk6 hsp hrl hsxy hus hus2 hL d0 d1 d2 d3 HUS HW HBo HTo
      go_upto_region 12 with (fail)
      have hk7 := (Keep.refl (fun _ => False) w6).alloc' (.cells #[.int .i64 sx, .int .i64 sy] 34)
      have hb7 := heap_alloc_new w6 (.cells #[.int .i64 sx, .int .i64 sy] 34)
      obtain ⟨w7, hw7⟩ : ∃ V : World, w6.alloc (.cells #[.int .i64 sx, .int .i64 sy] 34) = V := ⟨_, rfl⟩
      obtain ⟨b7, hq7⟩ : ∃ b7, w6.heap.size = b7 := ⟨_, rfl⟩
      rw [hw7] at hk7 hb7
      rw [hq7] at hb7
      rw [hw7, hq7]
      have HB7 := Lib.hid hb7
      have HK7 := Lib.hid (Keep.trans HW6.out (Since.of hk7))
      have HB67 := Lib.hid ((hk7.block q4 (blk_lt HB6.out) id).trans HB6.out)
      have HIU7 := Lib.hid (show IntsAt w7 Au L (nats us) from CellsAt.keep HIU.out hk7 (fun _ _ => id))
      obtain ⟨g, rfl, _, hx, hm, hc⟩ := (HTB6.out.quiet hk7).cellsI HKL.out
      have z0 : w7.cell? ⟨g, k * 14, none⟩ = some (.int .i64 (T.at_ k).op) := (hc 0 (by omega)).trans (by rw [← hx]; rfl)
      have z13 : w7.cell? ⟨g, k * 14 + 13, none⟩ = some (.bool (T.at_ k).once) := (hc 13 (by omega)).trans (by rw [← hx]; rfl)
      obtain ⟨op, ho⟩ : ∃ op, (T.at_ k).op = op := ⟨_, rfl⟩
      obtain ⟨on, hon⟩ : ∃ on, (T.at_ k).once = on := ⟨_, rfl⟩
      rw [ho] at z0 HHAS HOPD
      rw [hon] at z13 HONC
      have d2 := (blk_cell HB67.out 2).trans rfl
      have e0 := (blk_cell hb7 0).trans rfl
      have e1 := (blk_cell hb7 1).trans rfl
      clear hk7 hb7 hw7 hq7 s0 s1 hx hm hc ho hon
      go_cut [75] from 35 to 109 (fun t wx => t = .bool false ∧ Hid (w7 = wx))
      case first =>
        clear_value *
        as_aux_lemma =>
          by_cases h1 : op = 1
          · subst h1
            have hsp := HOPD.out rfl
            injection hsp with hsx hsy
            subst hsx hsy
            have heq := fun W => eq_pair (k : Int) ((N : Int) - 1) (k : Int) ((N : Int) - 1) W
            simp only [beq_self_eq_true, Bool.and_self] at heq
            go_wp2_with fail
            go_meet
            exact ⟨rfl, Lib.hid rfl⟩
          · have b1 : (op == 1) = false := by simpa using h1
            have b2 : (op != 1) = true := by simpa using h1
            have hh := HHAS.out h1
            try dsimp only at hh
            by_cases h0 : 0 < L
            · have c1 : decide (0 < L) = true := by simpa using h0
              have c2 : decide (0 ≤ sx) = true := by simpa using hh.1 h0
              clear hh h0
              go_wp2_with fail
              go_meet
              exact ⟨rfl, Lib.hid rfl⟩
            · have c1 : decide (0 < L) = false := by simpa using h0
              have c2 : decide (0 ≤ sx) = false := by simpa using fun e => h0 (hh.2 e)
              clear hh h0
              go_wp2_with fail
              go_meet
              exact ⟨rfl, Lib.hid rfl⟩
      case rest =>
        obtain ⟨rfl, hcc⟩ := hcut
        obtain rfl := hcc.out
        go_upto_region 14 with (fail)
        go_cut [92] from 35 to 109 (fun t wx => t = .bool false ∧ Hid (w7 = wx))
        case first =>
          clear_value *
          as_aux_lemma =>
            cases on with
            | false =>
              go_wp2_with fail
              go_meet
              exact ⟨rfl, Lib.hid rfl⟩
            | true =>
              by_cases h0 : 0 ≤ sx
              · have hsp := HONC.out rfl h0
                injection hsp with hsx hsy
                subst hsx hsy
                have heq := fun W => eq_pair 0 ((N : Int) - 1) 0 ((N : Int) - 1) W
                simp only [beq_self_eq_true, Bool.and_self] at heq
                go_wp2_with fail
                go_meet
                exact ⟨rfl, Lib.hid rfl⟩
              · have c2 : decide (0 ≤ sx) = false := by simpa using h0
                go_wp2_with fail
                go_meet
                exact ⟨rfl, Lib.hid rfl⟩
        case rest =>
          obtain ⟨rfl, hcc⟩ := hcut
          obtain rfl := hcc.out
          clear z0 z13 d2 e0 e1
          go_wp2_with fail
          go_loopw [95] (fun i wr => ∃ j : Nat, j ≤ L ∧ i = .int .i64 (j : Int) ∧ Hid (w7 = wr)) (fun i _ => L + 1 - (RowKit.intOf i).toNat)
          case atStart => exact ⟨0, Nat.zero_le _, rfl, Lib.hid rfl⟩
          case round =>
            obtain ⟨j, hj, rfl, HJ⟩ := hrel
            obtain rfl := HJ.out
            by_cases hjl : j < L
            · have hb2 : decide (j < L) = true := by simpa using hjl
              have hjI : (j : Int) < (L : Int) := by omega
              obtain ⟨b2, o2, rfl, _, l0⟩ := ints_ofs HIU7.out hjl
              have hmem : us.getD j 0 ∈ us := getD_mem (by rw [HLL.out]; exact hjl)
              have hnj : (nats us).getD j 0 = ((us.getD j 0 : Nat) : Int) := by
                unfold nats
                rw [List.getD_eq_getElem?_getD, List.getElem?_map, List.getD_eq_getElem?_getD, List.getElem?_eq_getElem (by rw [HLL.out]; exact hjl)]
                rfl
              obtain ⟨u, hu⟩ : ∃ u, us.getD j 0 = u := ⟨_, rfl⟩
              rw [hu] at hmem hnj
              rw [hnj] at l0
              obtain ⟨hu1, hu2⟩ := HMEM.out u hmem
              try dsimp only at hu2
              have c1 : decide (u ≤ k) = false := by simp; omega
              have c3 : decide ((u : Int) ≤ (k : Int)) = false := by simp; omega
              have c2 : decide (sy < (u : Int)) = false := by simp; omega
              have e1 := (blk_cell HB7.out 1).trans rfl
              clear hmem hnj hu hu1 hu2
              go_wp2_with fail
              exact ⟨⟨j + 1, by omega, by go_num, by first | exact Lib.hid rfl | exact Lib.hid trivial⟩, by simp [RowKit.intOf]; omega⟩
            · have hb2 : decide (j < L) = false := by simpa using hjl
              obtain rfl : j = L := by omega
              go_wp2_with fail
              exact ⟨⟨k + 1, by omega, by go_num, HK7⟩, by simp [RowKit.intOf]; omega⟩
    · have hb1 : decide (k < N) = false := by simpa using hlt
      go_wp2_with fail
      go_ret
      exact ⟨rfl, Keep.trans HK5.out (Since.mono HW.out HK5.out.size)⟩
end Go.Proofs.YtnbpgipbfejllaaDoor
