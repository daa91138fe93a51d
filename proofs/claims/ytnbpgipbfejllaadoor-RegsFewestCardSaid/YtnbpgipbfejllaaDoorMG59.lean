/- regs: sanity. -/
import Derived.Test.YtnbpgipbfejllaaDoorMG42
import Derived.Test.YtnbpgipbfejllaaDoorMG58
import Derived.BigQuiet
import Derived.Laws.Cover3
namespace Go.Proofs.YtnbpgipbfejllaaDoor
open Go.RowKit Go.Lib
set_option linter.unusedVariables false
set_option linter.unusedSimpArgs false

theorem eq_six (w : World) : (Op.equalIn 10000 66 (.agg #[.int .i64 0, .int .i64 5, .int .i64 1, .int .i64 5, .int .i64 2, .int .i64 3, .int .i64 3, .int .i64 4, .int .i64 4, .int .i64 5, .int .i64 (-1), .int .i64 (-1)]) (.agg #[.int .i64 0, .int .i64 5, .int .i64 1, .int .i64 5, .int .i64 2, .int .i64 3, .int .i64 3, .int .i64 4, .int .i64 4, .int .i64 5, .int .i64 (-1), .int .i64 (-1)])).run Tryd.prog w = .ok true w := by kernel_rfl
set_option maxRecDepth 100000 in
set_option maxHeartbeats 16000000 in
theorem sanity_any (w : World) (hn : NB w) (ht : TBW w) : Calls Tryd.prog 10 #[] w fun e w' => e = .returned (.bool true) ∧ Since w.heap.size w w' := by
  have HEX := Lib.hid (example_any w false)
  have HNB := Lib.hid hn
  have HTB := Lib.hid ht
  have HP1 := Lib.hid ht.pos
  clear hn ht
  go_enter Tryd.func10, Tryd.ntmps10
  go_wp2_with fail
  ((with_reducible refine HEX.out.mono ?_); rintro ee w1 ⟨A, ca, E, ce, R, X, rfl, hta, hk1⟩)
  rw [show trV A ca E ce (exT false) = .agg #[.int .i64 0, .int .i64 0, .slice A 6 ca, .slice E 2 ce] from rfl]
  have HT1 := Lib.hid hta
  have HK1 := Lib.hid hk1
  clear hta hk1 HEX
  go_upto_region 3 with (fail)
  have hk2 := ((Keep.refl (fun _ => False) w1).alloc' (.cells #[.int .i64 0, .int .i64 0, .slice A 6 ca, .slice E 2 ce] 31)).alloc' (.cells #[.int .i64 0, .int .i64 5, .int .i64 1, .int .i64 5, .int .i64 2, .int .i64 3, .int .i64 3, .int .i64 4, .int .i64 4, .int .i64 5, .int .i64 (-1), .int .i64 (-1)] 66)
  obtain ⟨hb1, hb2⟩ := @blk_two w1 (.cells #[.int .i64 0, .int .i64 0, .slice A 6 ca, .slice E 2 ce] 31) (.cells #[.int .i64 0, .int .i64 5, .int .i64 1, .int .i64 5, .int .i64 2, .int .i64 3, .int .i64 3, .int .i64 4, .int .i64 4, .int .i64 5, .int .i64 (-1), .int .i64 (-1)] 66)
  obtain ⟨w2, hw2⟩ : ∃ V : World, ((w1.alloc (.cells #[.int .i64 0, .int .i64 0, .slice A 6 ca, .slice E 2 ce] 31)).alloc (.cells #[.int .i64 0, .int .i64 5, .int .i64 1, .int .i64 5, .int .i64 2, .int .i64 3, .int .i64 3, .int .i64 4, .int .i64 4, .int .i64 5, .int .i64 (-1), .int .i64 (-1)] 66)) = V := ⟨_, rfl⟩
  obtain ⟨q, hq⟩ : ∃ q, w1.heap.size = q := ⟨_, rfl⟩
  rw [hw2] at hk2 hb1 hb2
  rw [hq] at hb1 hb2
  rw [hw2, hq]
  have HQ := Lib.hid hq
  have HK2 := Lib.hid (Keep.trans HK1.out (Since.of hk2))
  have HB1 := Lib.hid hb1
  have HB2 := Lib.hid hb2
  have HT2 := Lib.hid (HT1.out.quiet hk2)
  have HN2 := Lib.hid (HNB.out.since HK2.out HNB.out.pos)
  have HSPA := Lib.hid (show Calls Tryd.prog 15 #[.agg #[.int .i64 0, .int .i64 0, .slice A 6 ca, .slice E 2 ce]] w2 (fun e w' => ∃ g, e = .returned (.slice (some ⟨g, 0, none⟩) 6 6) ∧ w'.heap[g]? = some (.cells #[.int .i64 0, .int .i64 5, .int .i64 1, .int .i64 5, .int .i64 2, .int .i64 3, .int .i64 3, .int .i64 4, .int .i64 4, .int .i64 5, .int .i64 (-1), .int .i64 (-1)] 34 (0, 0)) ∧ w2.heap.size ≤ g ∧ Since w2.heap.size w2 w') from by
    have h9 := spans_any HT2.out (ex_right false) HN2.out
    rw [ex_spans] at h9
    exact h9)
  have d0 := (blk_cell hb1 0).trans rfl
  have d1 := (blk_cell hb1 1).trans rfl
  have d2 := (blk_cell hb1 2).trans rfl
  have d3 := (blk_cell hb1 3).trans rfl
  clear hk2 hb1 hb2 hw2 hq
  go_wp2_with fail
  ((with_reducible refine HSPA.out.mono ?_); rintro ee w3 ⟨gS, rfl, hgS, hgl, hk3⟩)
  have HS3 := Lib.hid hgS
  have HK3 := Lib.hid (Keep.trans HK2.out (Since.mono hk3 HK2.out.size))
  have HB13 := Lib.hid ((hk3.block q (blk_lt HB1.out) (Nat.not_le_of_lt (blk_lt HB1.out))).trans HB1.out)
  have HB23 := Lib.hid ((hk3.block (q + 1) (blk_lt HB2.out) (Nat.not_le_of_lt (blk_lt HB2.out))).trans HB2.out)
  have HT3 := Lib.hid (HT2.out.since hk3)
  have HN3 := Lib.hid (HNB.out.since HK3.out HNB.out.pos)
  clear d0 d1 d2 d3 HSPA hk3 hgl
  have s0 := (blk_cell HS3.out 0).trans rfl
  have t0 := (blk_cell HB23.out 0).trans rfl
  have s1 := (blk_cell HS3.out 1).trans rfl
  have t1 := (blk_cell HB23.out 1).trans rfl
  have s2 := (blk_cell HS3.out 2).trans rfl
  have t2 := (blk_cell HB23.out 2).trans rfl
  have s3 := (blk_cell HS3.out 3).trans rfl
  have t3 := (blk_cell HB23.out 3).trans rfl
  have s4 := (blk_cell HS3.out 4).trans rfl
  have t4 := (blk_cell HB23.out 4).trans rfl
  have s5 := (blk_cell HS3.out 5).trans rfl
  have t5 := (blk_cell HB23.out 5).trans rfl
  have s6 := (blk_cell HS3.out 6).trans rfl
  have t6 := (blk_cell HB23.out 6).trans rfl
  have s7 := (blk_cell HS3.out 7).trans rfl
  have t7 := (blk_cell HB23.out 7).trans rfl
  have s8 := (blk_cell HS3.out 8).trans rfl
  have t8 := (blk_cell HB23.out 8).trans rfl
  have s9 := (blk_cell HS3.out 9).trans rfl
  have t9 := (blk_cell HB23.out 9).trans rfl
  have s10 := (blk_cell HS3.out 10).trans rfl
  have t10 := (blk_cell HB23.out 10).trans rfl
  have s11 := (blk_cell HS3.out 11).trans rfl
  have t11 := (blk_cell HB23.out 11).trans rfl
  have hat : ∀ w, (Instr.arrayAt 66 (.slice (some ⟨gS, 0, none⟩) 6 6)).run Tryd.prog w = .ok (.pointer (some ⟨gS, 0, none⟩)) w := fun w => run_arrayAt w 66 _ 6 _ 6 6 Tryd.underlying66 (by decide)
  have heq := eq_six
  clear hgS
  go_wp2_with fail
  go_quiet (fail)
  have HK4 := Lib.hid (Keep.trans HK3.out (keep_drewN (fun k => w.heap.size ≤ k) w3 nq))
  have HB14 := Lib.hid (((keep_drewN (fun _ => False) w3 nq).block q (blk_lt HB13.out) id).trans HB13.out)
  have HT4 := Lib.hid (HT3.out.quiet (keep_drewN _ w3 nq))
  obtain ⟨w4, hw4⟩ : ∃ V : World, w3.drewN nq = V := ⟨_, rfl⟩
  rw [hw4] at HK4 HB14 HT4
  rw [hw4]
  have HAL := Lib.hid (show Calls Tryd.prog 12 #[.agg #[.int .i64 0, .int .i64 0, .slice A 6 ca, .slice E 2 ce], .int .i64 2] w4 (fun e w' => ∃ g, e = .returned (.tuple #[.agg #[.int .i64 2, .int .i64 1, .slice (some ⟨g, 0, none⟩) 6 6], .int .i64 0]) ∧ w'.heap[g]? = some (.cells (ints [0, 1, 2, 2, 2, -1]).toArray 3 (0, 0)) ∧ w4.heap.size ≤ g ∧ Since w4.heap.size w4 w') from by
    have h9 := alloc_any HT4.out (ex_right false) (HNB.out.since HK4.out HNB.out.pos) (HTB.out.since HK4.out HP1.out) 2 (by decide) (by decide)
    rw [show (exT false).ins.length = 6 from rfl, ex_alloc] at h9
    exact h9)
  have d0 := (blk_cell HB14.out 0).trans rfl
  have d1 := (blk_cell HB14.out 1).trans rfl
  have d2 := (blk_cell HB14.out 2).trans rfl
  have d3 := (blk_cell HB14.out 3).trans rfl
  clear hw4 hat heq s0 t0 s1 t1 s2 t2 s3 t3 s4 t4 s5 t5 s6 t6 s7 t7 s8 t8 s9 t9 s10 t10 s11 t11
  go_wp2_with fail
  ((with_reducible refine HAL.out.mono ?_); rintro ee w5 ⟨gL, rfl, hgL, hgl, hk5⟩)
  have HL5 := Lib.hid hgL
  have HK5 := Lib.hid (Keep.trans HK4.out (Since.mono hk5 HK4.out.size))
  have HB15 := Lib.hid ((hk5.block q (blk_lt HB14.out) (Nat.not_le_of_lt (blk_lt HB14.out))).trans HB14.out)
  have HT5 := Lib.hid (HT4.out.since hk5)
  clear d0 d1 d2 d3 HAL hk5 hgl hgL
  go_upto_region 7 with (fail)
  have hk6 := (Keep.refl (fun _ => False) w5).alloc' (.cells #[.int .i64 2, .int .i64 1, .slice (some ⟨gL, 0, none⟩) 6 6] 36)
  have hb6 := heap_alloc_new w5 (.cells #[.int .i64 2, .int .i64 1, .slice (some ⟨gL, 0, none⟩) 6 6] 36)
  obtain ⟨w6, hw6⟩ : ∃ V : World, w5.alloc (.cells #[.int .i64 2, .int .i64 1, .slice (some ⟨gL, 0, none⟩) 6 6] 36) = V := ⟨_, rfl⟩
  obtain ⟨q6, hq6⟩ : ∃ q6, w5.heap.size = q6 := ⟨_, rfl⟩
  rw [hw6] at hk6 hb6
  rw [hq6] at hb6
  rw [hw6, hq6]
  have HB6 := Lib.hid hb6
  have HK6 := Lib.hid (Keep.trans HK5.out (Since.of hk6))
  have HB16 := Lib.hid ((hk6.block q (blk_lt HB15.out) id).trans HB15.out)
  have HL6 := Lib.hid ((hk6.block gL (blk_lt HL5.out) id).trans HL5.out)
  have HT6 := Lib.hid (HT5.out.quiet hk6)
  have HEX := Lib.hid (example_any w6 true)
  clear hk6 hb6 hw6 hq6
  go_wp2_with fail
  ((with_reducible refine HEX.out.mono ?_); rintro ee w7 ⟨A2, ca2, E2, ce2, R2, X2, rfl, hta, hk7⟩)
  rw [show trV A2 ca2 E2 ce2 (exT true) = .agg #[.int .i64 0, .int .i64 0, .slice A2 6 ca2, .slice E2 2 ce2] from rfl]
  have HT7 := Lib.hid (HT6.out.since hk7)
  have HU7 := Lib.hid hta
  have HK7 := Lib.hid (Keep.trans HK6.out (Since.mono hk7 HK6.out.size))
  have HB17 := Lib.hid ((hk7.block q (blk_lt HB16.out) (Nat.not_le_of_lt (blk_lt HB16.out))).trans HB16.out)
  have HB67 := Lib.hid ((hk7.block q6 (blk_lt HB6.out) (Nat.not_le_of_lt (blk_lt HB6.out))).trans HB6.out)
  have HL7 := Lib.hid ((hk7.block gL (blk_lt HL6.out) (Nat.not_le_of_lt (blk_lt HL6.out))).trans HL6.out)
  have HAL := Lib.hid (show Calls Tryd.prog 12 #[.agg #[.int .i64 0, .int .i64 0, .slice A2 6 ca2, .slice E2 2 ce2], .int .i64 2] w7 (fun e w' => ∃ g, e = .returned (.tuple #[.agg #[.int .i64 2, .int .i64 2, .slice (some ⟨g, 0, none⟩) 6 6], .int .i64 0]) ∧ w'.heap[g]? = some (.cells (ints [1, 2, 0, 3, 3, -1]).toArray 3 (0, 0)) ∧ w7.heap.size ≤ g ∧ Since w7.heap.size w7 w') from by
    have h9 := alloc_any HU7.out (ex_right true) (HNB.out.since HK7.out HNB.out.pos) (HTB.out.since HK7.out HP1.out) 2 (by decide) (by decide)
    rw [show (exT true).ins.length = 6 from rfl, ex_alloc_once] at h9
    exact h9)
  clear hta hk7 HEX
  go_wp2_with fail
  ((with_reducible refine HAL.out.mono ?_); rintro ee w8 ⟨gM, rfl, hgM, hgl, hk8⟩)
  have HM8 := Lib.hid hgM
  have HK8 := Lib.hid (Keep.trans HK7.out (Since.mono hk8 HK7.out.size))
  have HB18 := Lib.hid ((hk8.block q (blk_lt HB17.out) (Nat.not_le_of_lt (blk_lt HB17.out))).trans HB17.out)
  have HB68 := Lib.hid ((hk8.block q6 (blk_lt HB67.out) (Nat.not_le_of_lt (blk_lt HB67.out))).trans HB67.out)
  have HL8 := Lib.hid ((hk8.block gL (blk_lt HL7.out) (Nat.not_le_of_lt (blk_lt HL7.out))).trans HL7.out)
  have HT8 := Lib.hid (HT7.out.since hk8)
  clear HAL hk8 hgl hgM
  go_upto_region 8 with (fail)
  have hk9 := (Keep.refl (fun _ => False) w8).alloc' (.cells #[.int .i64 2, .int .i64 2, .slice (some ⟨gM, 0, none⟩) 6 6] 36)
  have hb9 := heap_alloc_new w8 (.cells #[.int .i64 2, .int .i64 2, .slice (some ⟨gM, 0, none⟩) 6 6] 36)
  obtain ⟨w9, hw9⟩ : ∃ V : World, w8.alloc (.cells #[.int .i64 2, .int .i64 2, .slice (some ⟨gM, 0, none⟩) 6 6] 36) = V := ⟨_, rfl⟩
  obtain ⟨q9, hq9⟩ : ∃ q9, w8.heap.size = q9 := ⟨_, rfl⟩
  rw [hw9] at hk9 hb9
  rw [hq9] at hb9
  rw [hw9, hq9]
  have HK9 := Lib.hid (Keep.trans HK8.out (Since.of hk9))
  have HB9 := Lib.hid hb9
  have HB19 := Lib.hid ((hk9.block q (blk_lt HB18.out) id).trans HB18.out)
  have HB69 := Lib.hid ((hk9.block q6 (blk_lt HB68.out) id).trans HB68.out)
  have HL9 := Lib.hid ((hk9.block gL (blk_lt HL8.out) id).trans HL8.out)
  have HM9 := Lib.hid ((hk9.block gM (blk_lt HM8.out) id).trans HM8.out)
  have HT9 := Lib.hid (HT8.out.quiet hk9)
  have HCK := Lib.hid (show Calls Tryd.prog 18 #[.agg #[.int .i64 0, .int .i64 0, .slice A 6 ca, .slice E 2 ce], .agg #[.int .i64 2, .int .i64 1, .slice (some ⟨w9.heap.size, 0, none⟩) 6 6]] (w9.alloc (.cells #[.int .i64 0, .int .i64 1, .int .i64 0, .int .i64 2, .int .i64 2, .int .i64 (-1)] 3)) (fun e w' => e = .returned (.int .i64 32) ∧ Since (w9.heap.size + 1) (w9.alloc (.cells #[.int .i64 0, .int .i64 1, .int .i64 0, .int .i64 2, .int .i64 2, .int .i64 (-1)] 3)) w') from by
    have kx := (Keep.refl (fun _ => False) w9).alloc' (.cells #[.int .i64 0, .int .i64 1, .int .i64 0, .int .i64 2, .int .i64 2, .int .i64 (-1)] 3)
    have h9 := check_any (HT9.out.quiet kx) (ex_right false) ((HNB.out.since HK9.out HNB.out.pos).keep kx id) 2 1 (LA := some ⟨w9.heap.size, 0, none⟩) (L := 6) (Lc := 6) (loc := [0, 1, 0, 2, 2, -1]) (cells_new w9 [.int .i64 0, .int .i64 1, .int .i64 0, .int .i64 2, .int .i64 2, .int .i64 (-1)] _ (by decide)) (by decide)
    rw [show (exT false).ins.length = 6 from rfl, ex_spans, show checkP [(0, 5), (1, 5), (2, 3), (3, 4), (4, 5), (-1, -1)] 2 1 [0, 1, 0, 2, 2, -1] 6 = 32 from by decide, World.size_alloc] at h9
    exact h9)
  have d0 := (blk_cell HB19.out 0).trans rfl
  have d1 := (blk_cell HB19.out 1).trans rfl
  have d2 := (blk_cell HB19.out 2).trans rfl
  have d3 := (blk_cell HB19.out 3).trans rfl
  clear hk9 hb9 hw9 hq9
  go_wp2_with fail
  ((with_reducible refine HCK.out.mono ?_); rintro ee w10 ⟨rfl, hk10⟩)
  have hk10' : Since w9.heap.size w9 w10 := Keep.trans (Since.of ((Keep.refl (fun _ => False) w9).alloc' _)) (Keep.mono hk10 (fun b e => by omega))
  have HK10 := Lib.hid (Keep.trans HK9.out (Since.mono hk10' HK9.out.size))
  have B6 := (hk10'.block q6 (blk_lt HB69.out) (Nat.not_le_of_lt (blk_lt HB69.out))).trans HB69.out
  have B9 := (hk10'.block q9 (blk_lt HB9.out) (Nat.not_le_of_lt (blk_lt HB9.out))).trans HB9.out
  have HL10 := Lib.hid ((hk10'.block gL (blk_lt HL9.out) (Nat.not_le_of_lt (blk_lt HL9.out))).trans HL9.out)
  have HM10 := Lib.hid ((hk10'.block gM (blk_lt HM9.out) (Nat.not_le_of_lt (blk_lt HM9.out))).trans HM9.out)
  have HB610 := Lib.hid B6
  have HB910 := Lib.hid B9
  have a1 := (blk_cell B6 1).trans rfl
  have a2 := (blk_cell B6 2).trans rfl
  clear d0 d1 d2 d3 hk10 hk10' B6 B9 HCK
  have HI1 := Lib.hid (ints_same (w := w10.alloc (.cells #[.int .i64 0, .int .i64 1, .int .i64 2, .int .i64 2, .int .i64 2, .int .i64 (-1)] 3)) (A1 := some ⟨gL, 0, none⟩) (A2 := some ⟨w10.heap.size, 0, none⟩) (n := 6) (c1 := 6) (c2 := 6) (l := [0, 1, 2, 2, 2, -1]) (Lies.blk (xs := ints [0, 1, 2, 2, 2, -1]) (alloc_old' HL10.out) (by decide)).1 (cells_new w10 [.int .i64 0, .int .i64 1, .int .i64 2, .int .i64 2, .int .i64 2, .int .i64 (-1)] _ (by decide)))
  go_wp2_with fail
  ((with_reducible refine HI1.out.mono ?_); rintro ee w11 ⟨rfl, hk11⟩)
  have hkx := Keep.trans ((Keep.refl (fun _ => False) w10).alloc' (.cells #[.int .i64 0, .int .i64 1, .int .i64 2, .int .i64 2, .int .i64 2, .int .i64 (-1)] 3)) hk11
  have HK11 := Lib.hid (Keep.trans HK10.out (Since.of hkx))
  have B6 := (hkx.block q6 (blk_lt HB610.out) id).trans HB610.out
  have B9 := (hkx.block q9 (blk_lt HB910.out) id).trans HB910.out
  have HM11 := Lib.hid ((hkx.block gM (blk_lt HM10.out) id).trans HM10.out)
  have HB911 := Lib.hid B9
  have a1 := (blk_cell B6 1).trans rfl
  have b2 := (blk_cell B9 2).trans rfl
  have b1 := (blk_cell B9 1).trans rfl
  have HI2 := Lib.hid (ints_same (w := w11.alloc (.cells #[.int .i64 1, .int .i64 2, .int .i64 0, .int .i64 3, .int .i64 3, .int .i64 (-1)] 3)) (A1 := some ⟨gM, 0, none⟩) (A2 := some ⟨w11.heap.size, 0, none⟩) (n := 6) (c1 := 6) (c2 := 6) (l := [1, 2, 0, 3, 3, -1]) (Lies.blk (xs := ints [1, 2, 0, 3, 3, -1]) (alloc_old' HM11.out) (by decide)).1 (cells_new w11 [.int .i64 1, .int .i64 2, .int .i64 0, .int .i64 3, .int .i64 3, .int .i64 (-1)] _ (by decide)))
  clear a2 hk11 hkx B6 B9
  go_wp2_with fail
  ((with_reducible refine HI2.out.mono ?_); rintro ee w12 ⟨rfl, hk12⟩)
  have hkx := Keep.trans ((Keep.refl (fun _ => False) w11).alloc' (.cells #[.int .i64 1, .int .i64 2, .int .i64 0, .int .i64 3, .int .i64 3, .int .i64 (-1)] 3)) hk12
  have HK12 := Lib.hid (Keep.trans HK11.out (Since.of hkx))
  have B9 := (hkx.block q9 (blk_lt HB911.out) id).trans HB911.out
  have b1 := (blk_cell B9 1).trans rfl
  clear a1 b2 hk12 hkx B9
  go_wp2_with fail
  go_ret
  exact ⟨rfl, HK12.out⟩
end Go.Proofs.YtnbpgipbfejllaaDoor
