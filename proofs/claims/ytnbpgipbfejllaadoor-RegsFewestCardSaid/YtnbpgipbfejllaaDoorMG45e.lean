/- graph: right fields (the reference's), part 5. -/
import Derived.Test.YtnbpgipbfejllaaDoorMG17
namespace Go.Proofs.YtnbpgipbfejllaaDoor
open Go.RowKit Go.Lib
set_option linter.unusedVariables false
set_option linter.unusedSimpArgs false

set_option maxRecDepth 100000 in
set_option maxHeartbeats 16000000 in
theorem rf_fuel {w : World} {A2 : Option Addr} {ca2 : Nat} {N2 : Option Addr} {cn2 : Nat} {n ex : Int} (hf : RI.Fits w ⟨⟨18, 0, 0, 0, n, [], 0, 0, [], [], 0, 0, ex, false⟩, A2, ca2, N2, cn2⟩) (hn : 1 ≤ n ∧ n ≤ 4) : Calls Tryd.prog 84 #[.agg (RI.cells ⟨⟨18, 0, 0, 0, n, [], 0, 0, [], [], 0, 0, ex, false⟩, A2, ca2, N2, cn2⟩).toArray] w fun e w' => e = .returned (.bool true) ∧ Since w.heap.size w w' := by
  have HM0 := Lib.hid (show ∀ W, Calls Tryd.prog 97 #[.int .i64 n, .int .i64 1, .int .i64 200] W fun e w' => e = .returned (.bool true) ∧ W = w' from fun W => (within_any n 1 200 W).mono (fun e w' h => ⟨by rw [h.1]; simp <;> omega, h.2⟩))
  have HE := Lib.hid (show ∀ W, Calls Tryd.prog 97 #[.int .i64 18, .int .i64 0, .int .i64 21] W fun e w' => e = .returned (.bool true) ∧ W = w' from fun W => (within_any 18 0 21 W).mono (fun e w' h => ⟨by rw [h.1]; simp <;> omega, h.2⟩))
  have HS := Lib.hid (show ∀ W, Since w.heap.size w W → Calls Tryd.prog 47 #[.agg #[.int .i64 18, .int .i64 0, .int .i64 0, .int .i64 0, .int .i64 n, .slice A2 0 ca2, .int .i64 0, .int .i64 0, .string ⟨#[]⟩, .slice N2 0 cn2, .int .i64 0, .int .i64 0, .int .i64 ex, .bool false], .agg #[.int .i64 18, .int .i64 0, .int .i64 0, .int .i64 0, .int .i64 n, .slice none 0 0, .int .i64 0, .int .i64 0, .string ⟨#[]⟩, .slice none 0 0, .int .i64 0, .int .i64 0, .int .i64 ex, .bool false]] W fun e w' => e = .returned (.bool true) ∧ Keep (fun _ => False) W w' from fun W hW => same_any ⟨18, 0, 0, 0, n, [], 0, 0, [], [], 0, 0, ex, false⟩ A2 ca2 N2 cn2 none 0 none 0 ⟨hf.1.since hW, hf.2.since hW⟩ ⟨Lies.nil _ _ _, Lies.nil _ _ _⟩)
  have HU := Lib.hid (show ∀ W, Since w.heap.size w W → Calls Tryd.prog 56 #[.agg #[.int .i64 18, .int .i64 0, .int .i64 0, .int .i64 0, .int .i64 n, .slice A2 0 ca2, .int .i64 0, .int .i64 0, .string ⟨#[]⟩, .slice N2 0 cn2, .int .i64 0, .int .i64 0, .int .i64 ex, .bool false]] W fun e w' => ∃ Ax cx, e = .returned (.slice Ax 0 cx) ∧ IntsAt w' Ax 0 (TI.uses ⟨18, 0, 0, 0, n, [], 0, 0, [], [], 0, 0, ex, false⟩) ∧ Keep (fun _ => False) W w' from fun W hW => used_any ⟨⟨18, 0, 0, 0, n, [], 0, 0, [], [], 0, 0, ex, false⟩, A2, ca2, N2, cn2⟩ ⟨hf.1.since hW, hf.2.since hW⟩)
  clear hf hn
  unfold RI.cells
  dsimp only
  rw [show sb [] = (⟨#[]⟩ : ByteArray) from rfl]
  try rw [show ([] : List Int).length = 0 from rfl]
  try rw [show ([] : List Bytes).length = 0 from rfl]
  have HX := Lib.hid (heap_alloc_new w (.cells #[.int .i64 18, .int .i64 0, .int .i64 0, .int .i64 0, .int .i64 n, .slice A2 0 ca2, .int .i64 0, .int .i64 0, .string ⟨#[]⟩, .slice N2 0 cn2, .int .i64 0, .int .i64 0, .int .i64 ex, .bool false] 60))
  go_enter Tryd.func84, Tryd.ntmps84
  go_upto_region 6 with (fail)
  obtain ⟨w1, hw1⟩ : ∃ W : World, ((w.alloc (.cells #[.int .i64 18, .int .i64 0, .int .i64 0, .int .i64 0, .int .i64 n, .slice A2 0 ca2, .int .i64 0, .int .i64 0, .string ⟨#[]⟩, .slice N2 0 cn2, .int .i64 0, .int .i64 0, .int .i64 ex, .bool false] 60)).alloc (.cells #[.int .i64 18, .int .i64 0, .int .i64 0, .int .i64 0, .int .i64 0, .slice none 0 0, .int .i64 0, .int .i64 0, .string ⟨#[]⟩, .slice none 0 0, .int .i64 0, .int .i64 0, .int .i64 ex, .bool false] 60)) = W := ⟨_, rfl⟩
  have hk1 : Since w.heap.size w w1 := by rw [← hw1]; exact Since.of (((Keep.refl (fun _ => False) w).alloc' _).alloc' _)
  have hb1 : w1.heap[w.heap.size + 1]? = some (.cells #[.int .i64 18, .int .i64 0, .int .i64 0, .int .i64 0, .int .i64 0, .slice none 0 0, .int .i64 0, .int .i64 0, .string ⟨#[]⟩, .slice none 0 0, .int .i64 0, .int .i64 0, .int .i64 ex, .bool false] 60 (0, 0)) := by rw [← hw1]; simpa using heap_alloc_new (w.alloc (.cells #[.int .i64 18, .int .i64 0, .int .i64 0, .int .i64 0, .int .i64 n, .slice A2 0 ca2, .int .i64 0, .int .i64 0, .string ⟨#[]⟩, .slice N2 0 cn2, .int .i64 0, .int .i64 0, .int .i64 ex, .bool false] 60)) (.cells #[.int .i64 18, .int .i64 0, .int .i64 0, .int .i64 0, .int .i64 0, .slice none 0 0, .int .i64 0, .int .i64 0, .string ⟨#[]⟩, .slice none 0 0, .int .i64 0, .int .i64 0, .int .i64 ex, .bool false] 60)
  have hb0 : w1.heap[w.heap.size]? = some (.cells #[.int .i64 18, .int .i64 0, .int .i64 0, .int .i64 0, .int .i64 n, .slice A2 0 ca2, .int .i64 0, .int .i64 0, .string ⟨#[]⟩, .slice N2 0 cn2, .int .i64 0, .int .i64 0, .int .i64 ex, .bool false] 60 (0, 0)) := by rw [← hw1]; exact alloc_old' (heap_alloc_new w _)
  rw [hw1]
  obtain ⟨q, hq⟩ : ∃ q, w.heap.size = q := ⟨_, rfl⟩
  rw [hq] at hk1 hb0 hb1 HS HU
  rw [hq]
  have HQ := Lib.hid hq
  have HK1 := Lib.hid hk1
  have HB0 := Lib.hid hb0
  have HB1 := Lib.hid hb1
  have x0 := (blk_cell hb0 0).trans rfl
  have x1 := (blk_cell hb0 1).trans rfl
  have x2 := (blk_cell hb0 2).trans rfl
  have x3 := (blk_cell hb0 3).trans rfl
  have x4 := (blk_cell hb0 4).trans rfl
  have x5 := (blk_cell hb0 5).trans rfl
  have x6 := (blk_cell hb0 6).trans rfl
  have x7 := (blk_cell hb0 7).trans rfl
  have x8 := (blk_cell hb0 8).trans rfl
  have x9 := (blk_cell hb0 9).trans rfl
  have x10 := (blk_cell hb0 10).trans rfl
  have x11 := (blk_cell hb0 11).trans rfl
  have x12 := (blk_cell hb0 12).trans rfl
  have x13 := (blk_cell hb0 13).trans rfl
  clear hk1 hb0 hb1 hw1 hq HX
  go_wp2_with fail
  ((with_reducible refine (HU.out _ HK1.out).mono ?_); rintro ee w2 ⟨Au, cu, rfl, _, hk2⟩)
  clear x0 x1 x2 x3 x4 x5 x6 x7 x8 x9 x10 x11 x12 x13
  have h20 := (hk2.block q (blk_lt HB0.out) id).trans HB0.out
  have h21 := (hk2.block (q + 1) (blk_lt HB1.out) id).trans HB1.out
  have HK2 := Lib.hid (Keep.trans HK1.out (Since.of hk2))
  have HB20 := Lib.hid h20
  have HB21 := Lib.hid h21
  have x0 : w2.cell? ⟨q, 0, none⟩ = some (.int .i64 18) := (blk_cell h20 0).trans rfl
  have x1 : w2.cell? ⟨q, 1, none⟩ = some (.int .i64 0) := (blk_cell h20 1).trans rfl
  have x2 : w2.cell? ⟨q, 2, none⟩ = some (.int .i64 0) := (blk_cell h20 2).trans rfl
  have x3 : w2.cell? ⟨q, 3, none⟩ = some (.int .i64 0) := (blk_cell h20 3).trans rfl
  have x4 : w2.cell? ⟨q, 4, none⟩ = some (.int .i64 n) := (blk_cell h20 4).trans rfl
  have x5 : w2.cell? ⟨q, 5, none⟩ = some (.slice A2 0 ca2) := (blk_cell h20 5).trans rfl
  have x6 : w2.cell? ⟨q, 6, none⟩ = some (.int .i64 0) := (blk_cell h20 6).trans rfl
  have x7 : w2.cell? ⟨q, 7, none⟩ = some (.int .i64 0) := (blk_cell h20 7).trans rfl
  have x8 : w2.cell? ⟨q, 8, none⟩ = some (.string ⟨#[]⟩) := (blk_cell h20 8).trans rfl
  have x9 : w2.cell? ⟨q, 9, none⟩ = some (.slice N2 0 cn2) := (blk_cell h20 9).trans rfl
  have x10 : w2.cell? ⟨q, 10, none⟩ = some (.int .i64 0) := (blk_cell h20 10).trans rfl
  have x11 : w2.cell? ⟨q, 11, none⟩ = some (.int .i64 0) := (blk_cell h20 11).trans rfl
  have x12 : w2.cell? ⟨q, 12, none⟩ = some (.int .i64 ex) := (blk_cell h20 12).trans rfl
  have x13 : w2.cell? ⟨q, 13, none⟩ = some (.bool false) := (blk_cell h20 13).trans rfl
  have y0 : w2.cell? ⟨q + 1, 0, none⟩ = some (.int .i64 18) := (blk_cell h21 0).trans rfl
  have y1 : w2.cell? ⟨q + 1, 1, none⟩ = some (.int .i64 0) := (blk_cell h21 1).trans rfl
  have y2 : w2.cell? ⟨q + 1, 2, none⟩ = some (.int .i64 0) := (blk_cell h21 2).trans rfl
  have y3 : w2.cell? ⟨q + 1, 3, none⟩ = some (.int .i64 0) := (blk_cell h21 3).trans rfl
  have y4 : w2.cell? ⟨q + 1, 4, none⟩ = some (.int .i64 0) := (blk_cell h21 4).trans rfl
  have y5 : w2.cell? ⟨q + 1, 5, none⟩ = some (.slice none 0 0) := (blk_cell h21 5).trans rfl
  have y6 : w2.cell? ⟨q + 1, 6, none⟩ = some (.int .i64 0) := (blk_cell h21 6).trans rfl
  have y7 : w2.cell? ⟨q + 1, 7, none⟩ = some (.int .i64 0) := (blk_cell h21 7).trans rfl
  have y8 : w2.cell? ⟨q + 1, 8, none⟩ = some (.string ⟨#[]⟩) := (blk_cell h21 8).trans rfl
  have y9 : w2.cell? ⟨q + 1, 9, none⟩ = some (.slice none 0 0) := (blk_cell h21 9).trans rfl
  have y10 : w2.cell? ⟨q + 1, 10, none⟩ = some (.int .i64 0) := (blk_cell h21 10).trans rfl
  have y11 : w2.cell? ⟨q + 1, 11, none⟩ = some (.int .i64 0) := (blk_cell h21 11).trans rfl
  have y12 : w2.cell? ⟨q + 1, 12, none⟩ = some (.int .i64 ex) := (blk_cell h21 12).trans rfl
  have y13 : w2.cell? ⟨q + 1, 13, none⟩ = some (.bool false) := (blk_cell h21 13).trans rfl
  have f4 := blk_free h21 4
  clear hk2 h20 h21 HU
  go_wp2_with fail
  ((with_reducible refine (HM0.out _).mono ?_); rintro ee w' ⟨rfl, rfl⟩)
  go_wp2_with fail
  ((with_reducible refine (HE.out _).mono ?_); rintro ee w' ⟨rfl, rfl⟩)
  go_wp2_with fail
  with_reducible refine Calls.mono (HS.out _ ?sc) ?_
  case sc => exact (Keep.trans HK2.out (Keep.mono (by repeat (first | exact Keep.refl (fun b => b = q + 1) _ | refine keep_set ?_ _ _)) (fun b e => by omega)))
  rintro ee w9 ⟨rfl, hk9⟩
  go_wp2_with fail
  go_ret
  have hfin : Since q w w9 := Keep.trans (Keep.trans HK2.out (Keep.mono (by repeat (first | exact Keep.refl (fun b => b = q + 1) _ | refine keep_set ?_ _ _)) (fun b e => by omega))) (Since.of hk9)
  exact ⟨rfl, by rw [HQ.out]; exact hfin⟩
set_option maxRecDepth 100000 in
set_option maxHeartbeats 16000000 in
theorem rf_print {w : World} {A2 : Option Addr} {ca2 : Nat} {N2 : Option Addr} {cn2 : Nat} {a pl : Int} (hf : RI.Fits w ⟨⟨19, a, 0, 0, 0, [], 0, 0, [], [], 0, pl, (-1), false⟩, A2, ca2, N2, cn2⟩) (hn : 0 ≤ pl ∧ pl ≤ 2) : Calls Tryd.prog 84 #[.agg (RI.cells ⟨⟨19, a, 0, 0, 0, [], 0, 0, [], [], 0, pl, (-1), false⟩, A2, ca2, N2, cn2⟩).toArray] w fun e w' => e = .returned (.bool true) ∧ Since w.heap.size w w' := by
  have HE := Lib.hid (show ∀ W, Calls Tryd.prog 97 #[.int .i64 19, .int .i64 0, .int .i64 21] W fun e w' => e = .returned (.bool true) ∧ W = w' from fun W => (within_any 19 0 21 W).mono (fun e w' h => ⟨by rw [h.1]; simp <;> omega, h.2⟩))
  have HS := Lib.hid (show ∀ W, Since w.heap.size w W → Calls Tryd.prog 47 #[.agg #[.int .i64 19, .int .i64 a, .int .i64 0, .int .i64 0, .int .i64 0, .slice A2 0 ca2, .int .i64 0, .int .i64 0, .string ⟨#[]⟩, .slice N2 0 cn2, .int .i64 0, .int .i64 pl, .int .i64 (-1), .bool false], .agg #[.int .i64 19, .int .i64 a, .int .i64 0, .int .i64 0, .int .i64 0, .slice none 0 0, .int .i64 0, .int .i64 0, .string ⟨#[]⟩, .slice none 0 0, .int .i64 0, .int .i64 pl, .int .i64 (-1), .bool false]] W fun e w' => e = .returned (.bool true) ∧ Keep (fun _ => False) W w' from fun W hW => same_any ⟨19, a, 0, 0, 0, [], 0, 0, [], [], 0, pl, (-1), false⟩ A2 ca2 N2 cn2 none 0 none 0 ⟨hf.1.since hW, hf.2.since hW⟩ ⟨Lies.nil _ _ _, Lies.nil _ _ _⟩)
  have HU := Lib.hid (show ∀ W, Since w.heap.size w W → Calls Tryd.prog 56 #[.agg #[.int .i64 19, .int .i64 a, .int .i64 0, .int .i64 0, .int .i64 0, .slice A2 0 ca2, .int .i64 0, .int .i64 0, .string ⟨#[]⟩, .slice N2 0 cn2, .int .i64 0, .int .i64 pl, .int .i64 (-1), .bool false]] W fun e w' => ∃ Ax cx, e = .returned (.slice Ax 1 cx) ∧ IntsAt w' Ax 1 (TI.uses ⟨19, a, 0, 0, 0, [], 0, 0, [], [], 0, pl, (-1), false⟩) ∧ Keep (fun _ => False) W w' from fun W hW => used_any ⟨⟨19, a, 0, 0, 0, [], 0, 0, [], [], 0, pl, (-1), false⟩, A2, ca2, N2, cn2⟩ ⟨hf.1.since hW, hf.2.since hW⟩)
  have c1 : decide (0 ≤ pl) = true := by simp; omega
  clear hf hn
  unfold RI.cells
  dsimp only
  rw [show sb [] = (⟨#[]⟩ : ByteArray) from rfl]
  try rw [show ([] : List Int).length = 0 from rfl]
  try rw [show ([] : List Bytes).length = 0 from rfl]
  have HX := Lib.hid (heap_alloc_new w (.cells #[.int .i64 19, .int .i64 a, .int .i64 0, .int .i64 0, .int .i64 0, .slice A2 0 ca2, .int .i64 0, .int .i64 0, .string ⟨#[]⟩, .slice N2 0 cn2, .int .i64 0, .int .i64 pl, .int .i64 (-1), .bool false] 60))
  go_enter Tryd.func84, Tryd.ntmps84
  go_upto_region 6 with (fail)
  obtain ⟨w1, hw1⟩ : ∃ W : World, ((w.alloc (.cells #[.int .i64 19, .int .i64 a, .int .i64 0, .int .i64 0, .int .i64 0, .slice A2 0 ca2, .int .i64 0, .int .i64 0, .string ⟨#[]⟩, .slice N2 0 cn2, .int .i64 0, .int .i64 pl, .int .i64 (-1), .bool false] 60)).alloc (.cells #[.int .i64 19, .int .i64 0, .int .i64 0, .int .i64 0, .int .i64 0, .slice none 0 0, .int .i64 0, .int .i64 0, .string ⟨#[]⟩, .slice none 0 0, .int .i64 0, .int .i64 0, .int .i64 (-1), .bool false] 60)) = W := ⟨_, rfl⟩
  have hk1 : Since w.heap.size w w1 := by rw [← hw1]; exact Since.of (((Keep.refl (fun _ => False) w).alloc' _).alloc' _)
  have hb1 : w1.heap[w.heap.size + 1]? = some (.cells #[.int .i64 19, .int .i64 0, .int .i64 0, .int .i64 0, .int .i64 0, .slice none 0 0, .int .i64 0, .int .i64 0, .string ⟨#[]⟩, .slice none 0 0, .int .i64 0, .int .i64 0, .int .i64 (-1), .bool false] 60 (0, 0)) := by rw [← hw1]; simpa using heap_alloc_new (w.alloc (.cells #[.int .i64 19, .int .i64 a, .int .i64 0, .int .i64 0, .int .i64 0, .slice A2 0 ca2, .int .i64 0, .int .i64 0, .string ⟨#[]⟩, .slice N2 0 cn2, .int .i64 0, .int .i64 pl, .int .i64 (-1), .bool false] 60)) (.cells #[.int .i64 19, .int .i64 0, .int .i64 0, .int .i64 0, .int .i64 0, .slice none 0 0, .int .i64 0, .int .i64 0, .string ⟨#[]⟩, .slice none 0 0, .int .i64 0, .int .i64 0, .int .i64 (-1), .bool false] 60)
  have hb0 : w1.heap[w.heap.size]? = some (.cells #[.int .i64 19, .int .i64 a, .int .i64 0, .int .i64 0, .int .i64 0, .slice A2 0 ca2, .int .i64 0, .int .i64 0, .string ⟨#[]⟩, .slice N2 0 cn2, .int .i64 0, .int .i64 pl, .int .i64 (-1), .bool false] 60 (0, 0)) := by rw [← hw1]; exact alloc_old' (heap_alloc_new w _)
  rw [hw1]
  obtain ⟨q, hq⟩ : ∃ q, w.heap.size = q := ⟨_, rfl⟩
  rw [hq] at hk1 hb0 hb1 HS HU
  rw [hq]
  have HQ := Lib.hid hq
  have HK1 := Lib.hid hk1
  have HB0 := Lib.hid hb0
  have HB1 := Lib.hid hb1
  have x0 := (blk_cell hb0 0).trans rfl
  have x1 := (blk_cell hb0 1).trans rfl
  have x2 := (blk_cell hb0 2).trans rfl
  have x3 := (blk_cell hb0 3).trans rfl
  have x4 := (blk_cell hb0 4).trans rfl
  have x5 := (blk_cell hb0 5).trans rfl
  have x6 := (blk_cell hb0 6).trans rfl
  have x7 := (blk_cell hb0 7).trans rfl
  have x8 := (blk_cell hb0 8).trans rfl
  have x9 := (blk_cell hb0 9).trans rfl
  have x10 := (blk_cell hb0 10).trans rfl
  have x11 := (blk_cell hb0 11).trans rfl
  have x12 := (blk_cell hb0 12).trans rfl
  have x13 := (blk_cell hb0 13).trans rfl
  clear hk1 hb0 hb1 hw1 hq HX
  go_wp2_with fail
  ((with_reducible refine (HU.out _ HK1.out).mono ?_); rintro ee w2 ⟨Au, cu, rfl, _, hk2⟩)
  clear x0 x1 x2 x3 x4 x5 x6 x7 x8 x9 x10 x11 x12 x13
  have h20 := (hk2.block q (blk_lt HB0.out) id).trans HB0.out
  have h21 := (hk2.block (q + 1) (blk_lt HB1.out) id).trans HB1.out
  have HK2 := Lib.hid (Keep.trans HK1.out (Since.of hk2))
  have HB20 := Lib.hid h20
  have HB21 := Lib.hid h21
  have x0 : w2.cell? ⟨q, 0, none⟩ = some (.int .i64 19) := (blk_cell h20 0).trans rfl
  have x1 : w2.cell? ⟨q, 1, none⟩ = some (.int .i64 a) := (blk_cell h20 1).trans rfl
  have x2 : w2.cell? ⟨q, 2, none⟩ = some (.int .i64 0) := (blk_cell h20 2).trans rfl
  have x3 : w2.cell? ⟨q, 3, none⟩ = some (.int .i64 0) := (blk_cell h20 3).trans rfl
  have x4 : w2.cell? ⟨q, 4, none⟩ = some (.int .i64 0) := (blk_cell h20 4).trans rfl
  have x5 : w2.cell? ⟨q, 5, none⟩ = some (.slice A2 0 ca2) := (blk_cell h20 5).trans rfl
  have x6 : w2.cell? ⟨q, 6, none⟩ = some (.int .i64 0) := (blk_cell h20 6).trans rfl
  have x7 : w2.cell? ⟨q, 7, none⟩ = some (.int .i64 0) := (blk_cell h20 7).trans rfl
  have x8 : w2.cell? ⟨q, 8, none⟩ = some (.string ⟨#[]⟩) := (blk_cell h20 8).trans rfl
  have x9 : w2.cell? ⟨q, 9, none⟩ = some (.slice N2 0 cn2) := (blk_cell h20 9).trans rfl
  have x10 : w2.cell? ⟨q, 10, none⟩ = some (.int .i64 0) := (blk_cell h20 10).trans rfl
  have x11 : w2.cell? ⟨q, 11, none⟩ = some (.int .i64 pl) := (blk_cell h20 11).trans rfl
  have x12 : w2.cell? ⟨q, 12, none⟩ = some (.int .i64 (-1)) := (blk_cell h20 12).trans rfl
  have x13 : w2.cell? ⟨q, 13, none⟩ = some (.bool false) := (blk_cell h20 13).trans rfl
  have y0 : w2.cell? ⟨q + 1, 0, none⟩ = some (.int .i64 19) := (blk_cell h21 0).trans rfl
  have y1 : w2.cell? ⟨q + 1, 1, none⟩ = some (.int .i64 0) := (blk_cell h21 1).trans rfl
  have y2 : w2.cell? ⟨q + 1, 2, none⟩ = some (.int .i64 0) := (blk_cell h21 2).trans rfl
  have y3 : w2.cell? ⟨q + 1, 3, none⟩ = some (.int .i64 0) := (blk_cell h21 3).trans rfl
  have y4 : w2.cell? ⟨q + 1, 4, none⟩ = some (.int .i64 0) := (blk_cell h21 4).trans rfl
  have y5 : w2.cell? ⟨q + 1, 5, none⟩ = some (.slice none 0 0) := (blk_cell h21 5).trans rfl
  have y6 : w2.cell? ⟨q + 1, 6, none⟩ = some (.int .i64 0) := (blk_cell h21 6).trans rfl
  have y7 : w2.cell? ⟨q + 1, 7, none⟩ = some (.int .i64 0) := (blk_cell h21 7).trans rfl
  have y8 : w2.cell? ⟨q + 1, 8, none⟩ = some (.string ⟨#[]⟩) := (blk_cell h21 8).trans rfl
  have y9 : w2.cell? ⟨q + 1, 9, none⟩ = some (.slice none 0 0) := (blk_cell h21 9).trans rfl
  have y10 : w2.cell? ⟨q + 1, 10, none⟩ = some (.int .i64 0) := (blk_cell h21 10).trans rfl
  have y11 : w2.cell? ⟨q + 1, 11, none⟩ = some (.int .i64 0) := (blk_cell h21 11).trans rfl
  have y12 : w2.cell? ⟨q + 1, 12, none⟩ = some (.int .i64 (-1)) := (blk_cell h21 12).trans rfl
  have y13 : w2.cell? ⟨q + 1, 13, none⟩ = some (.bool false) := (blk_cell h21 13).trans rfl
  have f1 := blk_free h21 1
  have f10 := blk_free h21 10
  have f11 := blk_free h21 11
  clear hk2 h20 h21 HU
  go_wp2_with fail
  ((with_reducible refine (HE.out _).mono ?_); rintro ee w' ⟨rfl, rfl⟩)
  go_wp2_with fail
  with_reducible refine Calls.mono (HS.out _ ?sc) ?_
  case sc => exact (Keep.trans HK2.out (Keep.mono (by repeat (first | exact Keep.refl (fun b => b = q + 1) _ | refine keep_set ?_ _ _)) (fun b e => by omega)))
  rintro ee w9 ⟨rfl, hk9⟩
  go_wp2_with fail
  go_ret
  have hfin : Since q w w9 := Keep.trans (Keep.trans HK2.out (Keep.mono (by repeat (first | exact Keep.refl (fun b => b = q + 1) _ | refine keep_set ?_ _ _)) (fun b e => by omega))) (Since.of hk9)
  exact ⟨rfl, by rw [HQ.out]; exact hfin⟩
set_option maxRecDepth 100000 in
set_option maxHeartbeats 16000000 in
theorem rf_loop {w : World} {A2 : Option Addr} {ca2 : Nat} {N2 : Option Addr} {cn2 : Nat} {args : List Int} (hf : RI.Fits w ⟨⟨20, 0, 0, 0, 0, args, 0, 0, [], [], 0, 0, (-1), false⟩, A2, ca2, N2, cn2⟩)  : Calls Tryd.prog 84 #[.agg (RI.cells ⟨⟨20, 0, 0, 0, 0, args, 0, 0, [], [], 0, 0, (-1), false⟩, A2, ca2, N2, cn2⟩).toArray] w fun e w' => e = .returned (.bool true) ∧ Since w.heap.size w w' := by
  have HE := Lib.hid (show ∀ W, Calls Tryd.prog 97 #[.int .i64 20, .int .i64 0, .int .i64 21] W fun e w' => e = .returned (.bool true) ∧ W = w' from fun W => (within_any 20 0 21 W).mono (fun e w' h => ⟨by rw [h.1]; simp <;> omega, h.2⟩))
  have HS := Lib.hid (show ∀ W, Since w.heap.size w W → Calls Tryd.prog 47 #[.agg #[.int .i64 20, .int .i64 0, .int .i64 0, .int .i64 0, .int .i64 0, .slice A2 args.length ca2, .int .i64 0, .int .i64 0, .string ⟨#[]⟩, .slice N2 0 cn2, .int .i64 0, .int .i64 0, .int .i64 (-1), .bool false], .agg #[.int .i64 20, .int .i64 0, .int .i64 0, .int .i64 0, .int .i64 0, .slice A2 args.length ca2, .int .i64 0, .int .i64 0, .string ⟨#[]⟩, .slice none 0 0, .int .i64 0, .int .i64 0, .int .i64 (-1), .bool false]] W fun e w' => e = .returned (.bool true) ∧ Keep (fun _ => False) W w' from fun W hW => same_any ⟨20, 0, 0, 0, 0, args, 0, 0, [], [], 0, 0, (-1), false⟩ A2 ca2 N2 cn2 A2 ca2 none 0 ⟨hf.1.since hW, hf.2.since hW⟩ ⟨(hf.1.since hW), Lies.nil _ _ _⟩)
  have HU := Lib.hid (show ∀ W, Since w.heap.size w W → Calls Tryd.prog 56 #[.agg #[.int .i64 20, .int .i64 0, .int .i64 0, .int .i64 0, .int .i64 0, .slice A2 args.length ca2, .int .i64 0, .int .i64 0, .string ⟨#[]⟩, .slice N2 0 cn2, .int .i64 0, .int .i64 0, .int .i64 (-1), .bool false]] W fun e w' => ∃ Ax cx, e = .returned (.slice Ax args.length cx) ∧ IntsAt w' Ax args.length (TI.uses ⟨20, 0, 0, 0, 0, args, 0, 0, [], [], 0, 0, (-1), false⟩) ∧ Keep (fun _ => False) W w' from fun W hW => used_any ⟨⟨20, 0, 0, 0, 0, args, 0, 0, [], [], 0, 0, (-1), false⟩, A2, ca2, N2, cn2⟩ ⟨hf.1.since hW, hf.2.since hW⟩)
  clear hf 
  unfold RI.cells
  dsimp only
  rw [show sb [] = (⟨#[]⟩ : ByteArray) from rfl]
  try rw [show ([] : List Int).length = 0 from rfl]
  try rw [show ([] : List Bytes).length = 0 from rfl]
  have HX := Lib.hid (heap_alloc_new w (.cells #[.int .i64 20, .int .i64 0, .int .i64 0, .int .i64 0, .int .i64 0, .slice A2 args.length ca2, .int .i64 0, .int .i64 0, .string ⟨#[]⟩, .slice N2 0 cn2, .int .i64 0, .int .i64 0, .int .i64 (-1), .bool false] 60))
  go_enter Tryd.func84, Tryd.ntmps84
  go_upto_region 6 with (fail)
  obtain ⟨w1, hw1⟩ : ∃ W : World, ((w.alloc (.cells #[.int .i64 20, .int .i64 0, .int .i64 0, .int .i64 0, .int .i64 0, .slice A2 args.length ca2, .int .i64 0, .int .i64 0, .string ⟨#[]⟩, .slice N2 0 cn2, .int .i64 0, .int .i64 0, .int .i64 (-1), .bool false] 60)).alloc (.cells #[.int .i64 20, .int .i64 0, .int .i64 0, .int .i64 0, .int .i64 0, .slice none 0 0, .int .i64 0, .int .i64 0, .string ⟨#[]⟩, .slice none 0 0, .int .i64 0, .int .i64 0, .int .i64 (-1), .bool false] 60)) = W := ⟨_, rfl⟩
  have hk1 : Since w.heap.size w w1 := by rw [← hw1]; exact Since.of (((Keep.refl (fun _ => False) w).alloc' _).alloc' _)
  have hb1 : w1.heap[w.heap.size + 1]? = some (.cells #[.int .i64 20, .int .i64 0, .int .i64 0, .int .i64 0, .int .i64 0, .slice none 0 0, .int .i64 0, .int .i64 0, .string ⟨#[]⟩, .slice none 0 0, .int .i64 0, .int .i64 0, .int .i64 (-1), .bool false] 60 (0, 0)) := by rw [← hw1]; simpa using heap_alloc_new (w.alloc (.cells #[.int .i64 20, .int .i64 0, .int .i64 0, .int .i64 0, .int .i64 0, .slice A2 args.length ca2, .int .i64 0, .int .i64 0, .string ⟨#[]⟩, .slice N2 0 cn2, .int .i64 0, .int .i64 0, .int .i64 (-1), .bool false] 60)) (.cells #[.int .i64 20, .int .i64 0, .int .i64 0, .int .i64 0, .int .i64 0, .slice none 0 0, .int .i64 0, .int .i64 0, .string ⟨#[]⟩, .slice none 0 0, .int .i64 0, .int .i64 0, .int .i64 (-1), .bool false] 60)
  have hb0 : w1.heap[w.heap.size]? = some (.cells #[.int .i64 20, .int .i64 0, .int .i64 0, .int .i64 0, .int .i64 0, .slice A2 args.length ca2, .int .i64 0, .int .i64 0, .string ⟨#[]⟩, .slice N2 0 cn2, .int .i64 0, .int .i64 0, .int .i64 (-1), .bool false] 60 (0, 0)) := by rw [← hw1]; exact alloc_old' (heap_alloc_new w _)
  rw [hw1]
  obtain ⟨q, hq⟩ : ∃ q, w.heap.size = q := ⟨_, rfl⟩
  rw [hq] at hk1 hb0 hb1 HS HU
  rw [hq]
  have HQ := Lib.hid hq
  have HK1 := Lib.hid hk1
  have HB0 := Lib.hid hb0
  have HB1 := Lib.hid hb1
  have x0 := (blk_cell hb0 0).trans rfl
  have x1 := (blk_cell hb0 1).trans rfl
  have x2 := (blk_cell hb0 2).trans rfl
  have x3 := (blk_cell hb0 3).trans rfl
  have x4 := (blk_cell hb0 4).trans rfl
  have x5 := (blk_cell hb0 5).trans rfl
  have x6 := (blk_cell hb0 6).trans rfl
  have x7 := (blk_cell hb0 7).trans rfl
  have x8 := (blk_cell hb0 8).trans rfl
  have x9 := (blk_cell hb0 9).trans rfl
  have x10 := (blk_cell hb0 10).trans rfl
  have x11 := (blk_cell hb0 11).trans rfl
  have x12 := (blk_cell hb0 12).trans rfl
  have x13 := (blk_cell hb0 13).trans rfl
  clear hk1 hb0 hb1 hw1 hq HX
  go_wp2_with fail
  ((with_reducible refine (HU.out _ HK1.out).mono ?_); rintro ee w2 ⟨Au, cu, rfl, _, hk2⟩)
  clear x0 x1 x2 x3 x4 x5 x6 x7 x8 x9 x10 x11 x12 x13
  have h20 := (hk2.block q (blk_lt HB0.out) id).trans HB0.out
  have h21 := (hk2.block (q + 1) (blk_lt HB1.out) id).trans HB1.out
  have HK2 := Lib.hid (Keep.trans HK1.out (Since.of hk2))
  have HB20 := Lib.hid h20
  have HB21 := Lib.hid h21
  have x0 : w2.cell? ⟨q, 0, none⟩ = some (.int .i64 20) := (blk_cell h20 0).trans rfl
  have x1 : w2.cell? ⟨q, 1, none⟩ = some (.int .i64 0) := (blk_cell h20 1).trans rfl
  have x2 : w2.cell? ⟨q, 2, none⟩ = some (.int .i64 0) := (blk_cell h20 2).trans rfl
  have x3 : w2.cell? ⟨q, 3, none⟩ = some (.int .i64 0) := (blk_cell h20 3).trans rfl
  have x4 : w2.cell? ⟨q, 4, none⟩ = some (.int .i64 0) := (blk_cell h20 4).trans rfl
  have x5 : w2.cell? ⟨q, 5, none⟩ = some (.slice A2 args.length ca2) := (blk_cell h20 5).trans rfl
  have x6 : w2.cell? ⟨q, 6, none⟩ = some (.int .i64 0) := (blk_cell h20 6).trans rfl
  have x7 : w2.cell? ⟨q, 7, none⟩ = some (.int .i64 0) := (blk_cell h20 7).trans rfl
  have x8 : w2.cell? ⟨q, 8, none⟩ = some (.string ⟨#[]⟩) := (blk_cell h20 8).trans rfl
  have x9 : w2.cell? ⟨q, 9, none⟩ = some (.slice N2 0 cn2) := (blk_cell h20 9).trans rfl
  have x10 : w2.cell? ⟨q, 10, none⟩ = some (.int .i64 0) := (blk_cell h20 10).trans rfl
  have x11 : w2.cell? ⟨q, 11, none⟩ = some (.int .i64 0) := (blk_cell h20 11).trans rfl
  have x12 : w2.cell? ⟨q, 12, none⟩ = some (.int .i64 (-1)) := (blk_cell h20 12).trans rfl
  have x13 : w2.cell? ⟨q, 13, none⟩ = some (.bool false) := (blk_cell h20 13).trans rfl
  have y0 : w2.cell? ⟨q + 1, 0, none⟩ = some (.int .i64 20) := (blk_cell h21 0).trans rfl
  have y1 : w2.cell? ⟨q + 1, 1, none⟩ = some (.int .i64 0) := (blk_cell h21 1).trans rfl
  have y2 : w2.cell? ⟨q + 1, 2, none⟩ = some (.int .i64 0) := (blk_cell h21 2).trans rfl
  have y3 : w2.cell? ⟨q + 1, 3, none⟩ = some (.int .i64 0) := (blk_cell h21 3).trans rfl
  have y4 : w2.cell? ⟨q + 1, 4, none⟩ = some (.int .i64 0) := (blk_cell h21 4).trans rfl
  have y5 : w2.cell? ⟨q + 1, 5, none⟩ = some (.slice none 0 0) := (blk_cell h21 5).trans rfl
  have y6 : w2.cell? ⟨q + 1, 6, none⟩ = some (.int .i64 0) := (blk_cell h21 6).trans rfl
  have y7 : w2.cell? ⟨q + 1, 7, none⟩ = some (.int .i64 0) := (blk_cell h21 7).trans rfl
  have y8 : w2.cell? ⟨q + 1, 8, none⟩ = some (.string ⟨#[]⟩) := (blk_cell h21 8).trans rfl
  have y9 : w2.cell? ⟨q + 1, 9, none⟩ = some (.slice none 0 0) := (blk_cell h21 9).trans rfl
  have y10 : w2.cell? ⟨q + 1, 10, none⟩ = some (.int .i64 0) := (blk_cell h21 10).trans rfl
  have y11 : w2.cell? ⟨q + 1, 11, none⟩ = some (.int .i64 0) := (blk_cell h21 11).trans rfl
  have y12 : w2.cell? ⟨q + 1, 12, none⟩ = some (.int .i64 (-1)) := (blk_cell h21 12).trans rfl
  have y13 : w2.cell? ⟨q + 1, 13, none⟩ = some (.bool false) := (blk_cell h21 13).trans rfl
  have f5 := blk_free h21 5
  clear hk2 h20 h21 HU
  go_wp2_with fail
  ((with_reducible refine (HE.out _).mono ?_); rintro ee w' ⟨rfl, rfl⟩)
  go_wp2_with fail
  with_reducible refine Calls.mono (HS.out _ ?sc) ?_
  case sc => exact (Keep.trans HK2.out (Keep.mono (by repeat (first | exact Keep.refl (fun b => b = q + 1) _ | refine keep_set ?_ _ _)) (fun b e => by omega)))
  rintro ee w9 ⟨rfl, hk9⟩
  go_wp2_with fail
  go_ret
  have hfin : Since q w w9 := Keep.trans (Keep.trans HK2.out (Keep.mono (by repeat (first | exact Keep.refl (fun b => b = q + 1) _ | refine keep_set ?_ _ _)) (fun b e => by omega))) (Since.of hk9)
  exact ⟨rfl, by rw [HQ.out]; exact hfin⟩
set_option maxRecDepth 100000 in
set_option maxHeartbeats 16000000 in
theorem rf_fin {w : World} {A2 : Option Addr} {ca2 : Nat} {N2 : Option Addr} {cn2 : Nat} {ex : Int} (hf : RI.Fits w ⟨⟨21, 0, 0, 0, 0, [], 0, 0, [], [], 0, 0, ex, false⟩, A2, ca2, N2, cn2⟩)  : Calls Tryd.prog 84 #[.agg (RI.cells ⟨⟨21, 0, 0, 0, 0, [], 0, 0, [], [], 0, 0, ex, false⟩, A2, ca2, N2, cn2⟩).toArray] w fun e w' => e = .returned (.bool true) ∧ Since w.heap.size w w' := by
  have HE := Lib.hid (show ∀ W, Calls Tryd.prog 97 #[.int .i64 21, .int .i64 0, .int .i64 21] W fun e w' => e = .returned (.bool true) ∧ W = w' from fun W => (within_any 21 0 21 W).mono (fun e w' h => ⟨by rw [h.1]; simp <;> omega, h.2⟩))
  have HS := Lib.hid (show ∀ W, Since w.heap.size w W → Calls Tryd.prog 47 #[.agg #[.int .i64 21, .int .i64 0, .int .i64 0, .int .i64 0, .int .i64 0, .slice A2 0 ca2, .int .i64 0, .int .i64 0, .string ⟨#[]⟩, .slice N2 0 cn2, .int .i64 0, .int .i64 0, .int .i64 ex, .bool false], .agg #[.int .i64 21, .int .i64 0, .int .i64 0, .int .i64 0, .int .i64 0, .slice none 0 0, .int .i64 0, .int .i64 0, .string ⟨#[]⟩, .slice none 0 0, .int .i64 0, .int .i64 0, .int .i64 ex, .bool false]] W fun e w' => e = .returned (.bool true) ∧ Keep (fun _ => False) W w' from fun W hW => same_any ⟨21, 0, 0, 0, 0, [], 0, 0, [], [], 0, 0, ex, false⟩ A2 ca2 N2 cn2 none 0 none 0 ⟨hf.1.since hW, hf.2.since hW⟩ ⟨Lies.nil _ _ _, Lies.nil _ _ _⟩)
  have HU := Lib.hid (show ∀ W, Since w.heap.size w W → Calls Tryd.prog 56 #[.agg #[.int .i64 21, .int .i64 0, .int .i64 0, .int .i64 0, .int .i64 0, .slice A2 0 ca2, .int .i64 0, .int .i64 0, .string ⟨#[]⟩, .slice N2 0 cn2, .int .i64 0, .int .i64 0, .int .i64 ex, .bool false]] W fun e w' => ∃ Ax cx, e = .returned (.slice Ax 0 cx) ∧ IntsAt w' Ax 0 (TI.uses ⟨21, 0, 0, 0, 0, [], 0, 0, [], [], 0, 0, ex, false⟩) ∧ Keep (fun _ => False) W w' from fun W hW => used_any ⟨⟨21, 0, 0, 0, 0, [], 0, 0, [], [], 0, 0, ex, false⟩, A2, ca2, N2, cn2⟩ ⟨hf.1.since hW, hf.2.since hW⟩)
  clear hf 
  unfold RI.cells
  dsimp only
  rw [show sb [] = (⟨#[]⟩ : ByteArray) from rfl]
  try rw [show ([] : List Int).length = 0 from rfl]
  try rw [show ([] : List Bytes).length = 0 from rfl]
  have HX := Lib.hid (heap_alloc_new w (.cells #[.int .i64 21, .int .i64 0, .int .i64 0, .int .i64 0, .int .i64 0, .slice A2 0 ca2, .int .i64 0, .int .i64 0, .string ⟨#[]⟩, .slice N2 0 cn2, .int .i64 0, .int .i64 0, .int .i64 ex, .bool false] 60))
  go_enter Tryd.func84, Tryd.ntmps84
  go_upto_region 6 with (fail)
  obtain ⟨w1, hw1⟩ : ∃ W : World, ((w.alloc (.cells #[.int .i64 21, .int .i64 0, .int .i64 0, .int .i64 0, .int .i64 0, .slice A2 0 ca2, .int .i64 0, .int .i64 0, .string ⟨#[]⟩, .slice N2 0 cn2, .int .i64 0, .int .i64 0, .int .i64 ex, .bool false] 60)).alloc (.cells #[.int .i64 21, .int .i64 0, .int .i64 0, .int .i64 0, .int .i64 0, .slice none 0 0, .int .i64 0, .int .i64 0, .string ⟨#[]⟩, .slice none 0 0, .int .i64 0, .int .i64 0, .int .i64 ex, .bool false] 60)) = W := ⟨_, rfl⟩
  have hk1 : Since w.heap.size w w1 := by rw [← hw1]; exact Since.of (((Keep.refl (fun _ => False) w).alloc' _).alloc' _)
  have hb1 : w1.heap[w.heap.size + 1]? = some (.cells #[.int .i64 21, .int .i64 0, .int .i64 0, .int .i64 0, .int .i64 0, .slice none 0 0, .int .i64 0, .int .i64 0, .string ⟨#[]⟩, .slice none 0 0, .int .i64 0, .int .i64 0, .int .i64 ex, .bool false] 60 (0, 0)) := by rw [← hw1]; simpa using heap_alloc_new (w.alloc (.cells #[.int .i64 21, .int .i64 0, .int .i64 0, .int .i64 0, .int .i64 0, .slice A2 0 ca2, .int .i64 0, .int .i64 0, .string ⟨#[]⟩, .slice N2 0 cn2, .int .i64 0, .int .i64 0, .int .i64 ex, .bool false] 60)) (.cells #[.int .i64 21, .int .i64 0, .int .i64 0, .int .i64 0, .int .i64 0, .slice none 0 0, .int .i64 0, .int .i64 0, .string ⟨#[]⟩, .slice none 0 0, .int .i64 0, .int .i64 0, .int .i64 ex, .bool false] 60)
  have hb0 : w1.heap[w.heap.size]? = some (.cells #[.int .i64 21, .int .i64 0, .int .i64 0, .int .i64 0, .int .i64 0, .slice A2 0 ca2, .int .i64 0, .int .i64 0, .string ⟨#[]⟩, .slice N2 0 cn2, .int .i64 0, .int .i64 0, .int .i64 ex, .bool false] 60 (0, 0)) := by rw [← hw1]; exact alloc_old' (heap_alloc_new w _)
  rw [hw1]
  obtain ⟨q, hq⟩ : ∃ q, w.heap.size = q := ⟨_, rfl⟩
  rw [hq] at hk1 hb0 hb1 HS HU
  rw [hq]
  have HQ := Lib.hid hq
  have HK1 := Lib.hid hk1
  have HB0 := Lib.hid hb0
  have HB1 := Lib.hid hb1
  have x0 := (blk_cell hb0 0).trans rfl
  have x1 := (blk_cell hb0 1).trans rfl
  have x2 := (blk_cell hb0 2).trans rfl
  have x3 := (blk_cell hb0 3).trans rfl
  have x4 := (blk_cell hb0 4).trans rfl
  have x5 := (blk_cell hb0 5).trans rfl
  have x6 := (blk_cell hb0 6).trans rfl
  have x7 := (blk_cell hb0 7).trans rfl
  have x8 := (blk_cell hb0 8).trans rfl
  have x9 := (blk_cell hb0 9).trans rfl
  have x10 := (blk_cell hb0 10).trans rfl
  have x11 := (blk_cell hb0 11).trans rfl
  have x12 := (blk_cell hb0 12).trans rfl
  have x13 := (blk_cell hb0 13).trans rfl
  clear hk1 hb0 hb1 hw1 hq HX
  go_wp2_with fail
  ((with_reducible refine (HU.out _ HK1.out).mono ?_); rintro ee w2 ⟨Au, cu, rfl, _, hk2⟩)
  clear x0 x1 x2 x3 x4 x5 x6 x7 x8 x9 x10 x11 x12 x13
  have h20 := (hk2.block q (blk_lt HB0.out) id).trans HB0.out
  have h21 := (hk2.block (q + 1) (blk_lt HB1.out) id).trans HB1.out
  have HK2 := Lib.hid (Keep.trans HK1.out (Since.of hk2))
  have HB20 := Lib.hid h20
  have HB21 := Lib.hid h21
  have x0 : w2.cell? ⟨q, 0, none⟩ = some (.int .i64 21) := (blk_cell h20 0).trans rfl
  have x1 : w2.cell? ⟨q, 1, none⟩ = some (.int .i64 0) := (blk_cell h20 1).trans rfl
  have x2 : w2.cell? ⟨q, 2, none⟩ = some (.int .i64 0) := (blk_cell h20 2).trans rfl
  have x3 : w2.cell? ⟨q, 3, none⟩ = some (.int .i64 0) := (blk_cell h20 3).trans rfl
  have x4 : w2.cell? ⟨q, 4, none⟩ = some (.int .i64 0) := (blk_cell h20 4).trans rfl
  have x5 : w2.cell? ⟨q, 5, none⟩ = some (.slice A2 0 ca2) := (blk_cell h20 5).trans rfl
  have x6 : w2.cell? ⟨q, 6, none⟩ = some (.int .i64 0) := (blk_cell h20 6).trans rfl
  have x7 : w2.cell? ⟨q, 7, none⟩ = some (.int .i64 0) := (blk_cell h20 7).trans rfl
  have x8 : w2.cell? ⟨q, 8, none⟩ = some (.string ⟨#[]⟩) := (blk_cell h20 8).trans rfl
  have x9 : w2.cell? ⟨q, 9, none⟩ = some (.slice N2 0 cn2) := (blk_cell h20 9).trans rfl
  have x10 : w2.cell? ⟨q, 10, none⟩ = some (.int .i64 0) := (blk_cell h20 10).trans rfl
  have x11 : w2.cell? ⟨q, 11, none⟩ = some (.int .i64 0) := (blk_cell h20 11).trans rfl
  have x12 : w2.cell? ⟨q, 12, none⟩ = some (.int .i64 ex) := (blk_cell h20 12).trans rfl
  have x13 : w2.cell? ⟨q, 13, none⟩ = some (.bool false) := (blk_cell h20 13).trans rfl
  have y0 : w2.cell? ⟨q + 1, 0, none⟩ = some (.int .i64 21) := (blk_cell h21 0).trans rfl
  have y1 : w2.cell? ⟨q + 1, 1, none⟩ = some (.int .i64 0) := (blk_cell h21 1).trans rfl
  have y2 : w2.cell? ⟨q + 1, 2, none⟩ = some (.int .i64 0) := (blk_cell h21 2).trans rfl
  have y3 : w2.cell? ⟨q + 1, 3, none⟩ = some (.int .i64 0) := (blk_cell h21 3).trans rfl
  have y4 : w2.cell? ⟨q + 1, 4, none⟩ = some (.int .i64 0) := (blk_cell h21 4).trans rfl
  have y5 : w2.cell? ⟨q + 1, 5, none⟩ = some (.slice none 0 0) := (blk_cell h21 5).trans rfl
  have y6 : w2.cell? ⟨q + 1, 6, none⟩ = some (.int .i64 0) := (blk_cell h21 6).trans rfl
  have y7 : w2.cell? ⟨q + 1, 7, none⟩ = some (.int .i64 0) := (blk_cell h21 7).trans rfl
  have y8 : w2.cell? ⟨q + 1, 8, none⟩ = some (.string ⟨#[]⟩) := (blk_cell h21 8).trans rfl
  have y9 : w2.cell? ⟨q + 1, 9, none⟩ = some (.slice none 0 0) := (blk_cell h21 9).trans rfl
  have y10 : w2.cell? ⟨q + 1, 10, none⟩ = some (.int .i64 0) := (blk_cell h21 10).trans rfl
  have y11 : w2.cell? ⟨q + 1, 11, none⟩ = some (.int .i64 0) := (blk_cell h21 11).trans rfl
  have y12 : w2.cell? ⟨q + 1, 12, none⟩ = some (.int .i64 ex) := (blk_cell h21 12).trans rfl
  have y13 : w2.cell? ⟨q + 1, 13, none⟩ = some (.bool false) := (blk_cell h21 13).trans rfl
  clear hk2 h20 h21 HU
  go_wp2_with fail
  ((with_reducible refine (HE.out _).mono ?_); rintro ee w' ⟨rfl, rfl⟩)
  go_wp2_with fail
  with_reducible refine Calls.mono (HS.out _ ?sc) ?_
  case sc => exact (Keep.trans HK2.out (Keep.mono (by repeat (first | exact Keep.refl (fun b => b = q + 1) _ | refine keep_set ?_ _ _)) (fun b e => by omega)))
  rintro ee w9 ⟨rfl, hk9⟩
  go_wp2_with fail
  go_ret
  have hfin : Since q w w9 := Keep.trans (Keep.trans HK2.out (Keep.mono (by repeat (first | exact Keep.refl (fun b => b = q + 1) _ | refine keep_set ?_ _ _)) (fun b e => by omega))) (Since.of hk9)
  exact ⟨rfl, by rw [HQ.out]; exact hfin⟩
end Go.Proofs.YtnbpgipbfejllaaDoor
