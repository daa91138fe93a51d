/- graph: right fields (the reference's), part 1. -/
import Derived.Test.YtnbpgipbfejllaaDoorMG17
namespace Go.Proofs.YtnbpgipbfejllaaDoor
open Go.RowKit Go.Lib
set_option linter.unusedVariables false
set_option linter.unusedSimpArgs false

set_option maxRecDepth 100000 in
set_option maxHeartbeats 16000000 in
theorem rf_param {w : World} {A2 : Option Addr} {ca2 : Nat} {N2 : Option Addr} {cn2 : Nat} {k : Nat} (hf : RI.Fits w ⟨⟨1, 0, 0, 0, 0, [], 3, (k : Int), [], [], 0, 0, (-1), false⟩, A2, ca2, N2, cn2⟩) (hk : k < 4) : Calls Tryd.prog 84 #[.agg (RI.cells ⟨⟨1, 0, 0, 0, 0, [], 3, (k : Int), [], [], 0, 0, (-1), false⟩, A2, ca2, N2, cn2⟩).toArray] w fun e w' => e = .returned (.bool true) ∧ Since w.heap.size w w' := by
  have HM0 := Lib.hid (show ∀ W, Calls Tryd.prog 97 #[.int .i64 (k : Int), .int .i64 0, .int .i64 23] W fun e w' => e = .returned (.bool true) ∧ W = w' from fun W => (within_any (k : Int) 0 23 W).mono (fun e w' h => ⟨by rw [h.1]; simp <;> omega, h.2⟩))
  have HE := Lib.hid (show ∀ W, Calls Tryd.prog 97 #[.int .i64 1, .int .i64 0, .int .i64 21] W fun e w' => e = .returned (.bool true) ∧ W = w' from fun W => (within_any 1 0 21 W).mono (fun e w' h => ⟨by rw [h.1]; simp <;> omega, h.2⟩))
  have HS := Lib.hid (show ∀ W, Since w.heap.size w W → Calls Tryd.prog 47 #[.agg #[.int .i64 1, .int .i64 0, .int .i64 0, .int .i64 0, .int .i64 0, .slice A2 0 ca2, .int .i64 3, .int .i64 (k : Int), .string ⟨#[]⟩, .slice N2 0 cn2, .int .i64 0, .int .i64 0, .int .i64 (-1), .bool false], .agg #[.int .i64 1, .int .i64 0, .int .i64 0, .int .i64 0, .int .i64 0, .slice none 0 0, .int .i64 3, .int .i64 (k : Int), .string ⟨#[]⟩, .slice none 0 0, .int .i64 0, .int .i64 0, .int .i64 (-1), .bool false]] W fun e w' => e = .returned (.bool true) ∧ Keep (fun _ => False) W w' from fun W hW => same_any ⟨1, 0, 0, 0, 0, [], 3, (k : Int), [], [], 0, 0, (-1), false⟩ A2 ca2 N2 cn2 none 0 none 0 ⟨hf.1.since hW, hf.2.since hW⟩ ⟨Lies.nil _ _ _, Lies.nil _ _ _⟩)
  have HU := Lib.hid (show ∀ W, Since w.heap.size w W → Calls Tryd.prog 56 #[.agg #[.int .i64 1, .int .i64 0, .int .i64 0, .int .i64 0, .int .i64 0, .slice A2 0 ca2, .int .i64 3, .int .i64 (k : Int), .string ⟨#[]⟩, .slice N2 0 cn2, .int .i64 0, .int .i64 0, .int .i64 (-1), .bool false]] W fun e w' => ∃ Ax cx, e = .returned (.slice Ax 0 cx) ∧ IntsAt w' Ax 0 (TI.uses ⟨1, 0, 0, 0, 0, [], 3, (k : Int), [], [], 0, 0, (-1), false⟩) ∧ Keep (fun _ => False) W w' from fun W hW => used_any ⟨⟨1, 0, 0, 0, 0, [], 3, (k : Int), [], [], 0, 0, (-1), false⟩, A2, ca2, N2, cn2⟩ ⟨hf.1.since hW, hf.2.since hW⟩)
  clear hf hk
  unfold RI.cells
  dsimp only
  rw [show sb [] = (⟨#[]⟩ : ByteArray) from rfl]
  try rw [show ([] : List Int).length = 0 from rfl]
  try rw [show ([] : List Bytes).length = 0 from rfl]
  have HX := Lib.hid (heap_alloc_new w (.cells #[.int .i64 1, .int .i64 0, .int .i64 0, .int .i64 0, .int .i64 0, .slice A2 0 ca2, .int .i64 3, .int .i64 (k : Int), .string ⟨#[]⟩, .slice N2 0 cn2, .int .i64 0, .int .i64 0, .int .i64 (-1), .bool false] 60))
  go_enter Tryd.func84, Tryd.ntmps84
  go_upto_region 6 with (fail)
  obtain ⟨w1, hw1⟩ : ∃ W : World, ((w.alloc (.cells #[.int .i64 1, .int .i64 0, .int .i64 0, .int .i64 0, .int .i64 0, .slice A2 0 ca2, .int .i64 3, .int .i64 (k : Int), .string ⟨#[]⟩, .slice N2 0 cn2, .int .i64 0, .int .i64 0, .int .i64 (-1), .bool false] 60)).alloc (.cells #[.int .i64 1, .int .i64 0, .int .i64 0, .int .i64 0, .int .i64 0, .slice none 0 0, .int .i64 0, .int .i64 0, .string ⟨#[]⟩, .slice none 0 0, .int .i64 0, .int .i64 0, .int .i64 (-1), .bool false] 60)) = W := ⟨_, rfl⟩
  have hk1 : Since w.heap.size w w1 := by rw [← hw1]; exact Since.of (((Keep.refl (fun _ => False) w).alloc' _).alloc' _)
  have hb1 : w1.heap[w.heap.size + 1]? = some (.cells #[.int .i64 1, .int .i64 0, .int .i64 0, .int .i64 0, .int .i64 0, .slice none 0 0, .int .i64 0, .int .i64 0, .string ⟨#[]⟩, .slice none 0 0, .int .i64 0, .int .i64 0, .int .i64 (-1), .bool false] 60 (0, 0)) := by rw [← hw1]; simpa using heap_alloc_new (w.alloc (.cells #[.int .i64 1, .int .i64 0, .int .i64 0, .int .i64 0, .int .i64 0, .slice A2 0 ca2, .int .i64 3, .int .i64 (k : Int), .string ⟨#[]⟩, .slice N2 0 cn2, .int .i64 0, .int .i64 0, .int .i64 (-1), .bool false] 60)) (.cells #[.int .i64 1, .int .i64 0, .int .i64 0, .int .i64 0, .int .i64 0, .slice none 0 0, .int .i64 0, .int .i64 0, .string ⟨#[]⟩, .slice none 0 0, .int .i64 0, .int .i64 0, .int .i64 (-1), .bool false] 60)
  have hb0 : w1.heap[w.heap.size]? = some (.cells #[.int .i64 1, .int .i64 0, .int .i64 0, .int .i64 0, .int .i64 0, .slice A2 0 ca2, .int .i64 3, .int .i64 (k : Int), .string ⟨#[]⟩, .slice N2 0 cn2, .int .i64 0, .int .i64 0, .int .i64 (-1), .bool false] 60 (0, 0)) := by rw [← hw1]; exact alloc_old' (heap_alloc_new w _)
  rw [hw1]
  obtain ⟨q, hq⟩ : ∃ q, w.heap.size = q := ⟨_, rfl⟩
  rw [hq] at hk1 hb0 hb1 HS HU
  rw [hq]
  have HQ := Lib.hid hq
  have HK1 := Lib.hid hk1
  have HB0 := Lib.hid hb0
  have HB1 := Lib.hid hb1
  have x0 := (blk_cell hb0 0).trans rfl
  have x1 := (blk_cell hb0 1).trans rfl
  have x2 := (blk_cell hb0 2).trans rfl
  have x3 := (blk_cell hb0 3).trans rfl
  have x4 := (blk_cell hb0 4).trans rfl
  have x5 := (blk_cell hb0 5).trans rfl
  have x6 := (blk_cell hb0 6).trans rfl
  have x7 := (blk_cell hb0 7).trans rfl
  have x8 := (blk_cell hb0 8).trans rfl
  have x9 := (blk_cell hb0 9).trans rfl
  have x10 := (blk_cell hb0 10).trans rfl
  have x11 := (blk_cell hb0 11).trans rfl
  have x12 := (blk_cell hb0 12).trans rfl
  have x13 := (blk_cell hb0 13).trans rfl
  clear hk1 hb0 hb1 hw1 hq HX
  go_wp2_with fail
  ((with_reducible refine (HU.out _ HK1.out).mono ?_); rintro ee w2 ⟨Au, cu, rfl, _, hk2⟩)
  clear x0 x1 x2 x3 x4 x5 x6 x7 x8 x9 x10 x11 x12 x13
  have h20 := (hk2.block q (blk_lt HB0.out) id).trans HB0.out
  have h21 := (hk2.block (q + 1) (blk_lt HB1.out) id).trans HB1.out
  have HK2 := Lib.hid (Keep.trans HK1.out (Since.of hk2))
  have HB20 := Lib.hid h20
  have HB21 := Lib.hid h21
  have x0 : w2.cell? ⟨q, 0, none⟩ = some (.int .i64 1) := (blk_cell h20 0).trans rfl
  have x1 : w2.cell? ⟨q, 1, none⟩ = some (.int .i64 0) := (blk_cell h20 1).trans rfl
  have x2 : w2.cell? ⟨q, 2, none⟩ = some (.int .i64 0) := (blk_cell h20 2).trans rfl
  have x3 : w2.cell? ⟨q, 3, none⟩ = some (.int .i64 0) := (blk_cell h20 3).trans rfl
  have x4 : w2.cell? ⟨q, 4, none⟩ = some (.int .i64 0) := (blk_cell h20 4).trans rfl
  have x5 : w2.cell? ⟨q, 5, none⟩ = some (.slice A2 0 ca2) := (blk_cell h20 5).trans rfl
  have x6 : w2.cell? ⟨q, 6, none⟩ = some (.int .i64 3) := (blk_cell h20 6).trans rfl
  have x7 : w2.cell? ⟨q, 7, none⟩ = some (.int .i64 (k : Int)) := (blk_cell h20 7).trans rfl
  have x8 : w2.cell? ⟨q, 8, none⟩ = some (.string ⟨#[]⟩) := (blk_cell h20 8).trans rfl
  have x9 : w2.cell? ⟨q, 9, none⟩ = some (.slice N2 0 cn2) := (blk_cell h20 9).trans rfl
  have x10 : w2.cell? ⟨q, 10, none⟩ = some (.int .i64 0) := (blk_cell h20 10).trans rfl
  have x11 : w2.cell? ⟨q, 11, none⟩ = some (.int .i64 0) := (blk_cell h20 11).trans rfl
  have x12 : w2.cell? ⟨q, 12, none⟩ = some (.int .i64 (-1)) := (blk_cell h20 12).trans rfl
  have x13 : w2.cell? ⟨q, 13, none⟩ = some (.bool false) := (blk_cell h20 13).trans rfl
  have y0 : w2.cell? ⟨q + 1, 0, none⟩ = some (.int .i64 1) := (blk_cell h21 0).trans rfl
  have y1 : w2.cell? ⟨q + 1, 1, none⟩ = some (.int .i64 0) := (blk_cell h21 1).trans rfl
  have y2 : w2.cell? ⟨q + 1, 2, none⟩ = some (.int .i64 0) := (blk_cell h21 2).trans rfl
  have y3 : w2.cell? ⟨q + 1, 3, none⟩ = some (.int .i64 0) := (blk_cell h21 3).trans rfl
  have y4 : w2.cell? ⟨q + 1, 4, none⟩ = some (.int .i64 0) := (blk_cell h21 4).trans rfl
  have y5 : w2.cell? ⟨q + 1, 5, none⟩ = some (.slice none 0 0) := (blk_cell h21 5).trans rfl
  have y6 : w2.cell? ⟨q + 1, 6, none⟩ = some (.int .i64 0) := (blk_cell h21 6).trans rfl
  have y7 : w2.cell? ⟨q + 1, 7, none⟩ = some (.int .i64 0) := (blk_cell h21 7).trans rfl
  have y8 : w2.cell? ⟨q + 1, 8, none⟩ = some (.string ⟨#[]⟩) := (blk_cell h21 8).trans rfl
  have y9 : w2.cell? ⟨q + 1, 9, none⟩ = some (.slice none 0 0) := (blk_cell h21 9).trans rfl
  have y10 : w2.cell? ⟨q + 1, 10, none⟩ = some (.int .i64 0) := (blk_cell h21 10).trans rfl
  have y11 : w2.cell? ⟨q + 1, 11, none⟩ = some (.int .i64 0) := (blk_cell h21 11).trans rfl
  have y12 : w2.cell? ⟨q + 1, 12, none⟩ = some (.int .i64 (-1)) := (blk_cell h21 12).trans rfl
  have y13 : w2.cell? ⟨q + 1, 13, none⟩ = some (.bool false) := (blk_cell h21 13).trans rfl
  have f6 := blk_free h21 6
  have f7 := blk_free h21 7
  have f8 := blk_free h21 8
  clear hk2 h20 h21 HU
  go_wp2_with fail
  ((with_reducible refine (HM0.out _).mono ?_); rintro ee w' ⟨rfl, rfl⟩)
  go_wp2_with fail
  ((with_reducible refine (HE.out _).mono ?_); rintro ee w' ⟨rfl, rfl⟩)
  go_wp2_with fail
  with_reducible refine Calls.mono (HS.out _ ?sc) ?_
  case sc => exact (Keep.trans HK2.out (Keep.mono (by repeat (first | exact Keep.refl (fun b => b = q + 1) _ | refine keep_set ?_ _ _)) (fun b e => by omega)))
  rintro ee w9 ⟨rfl, hk9⟩
  go_wp2_with fail
  go_ret
  have hfin : Since q w w9 := Keep.trans (Keep.trans HK2.out (Keep.mono (by repeat (first | exact Keep.refl (fun b => b = q + 1) _ | refine keep_set ?_ _ _)) (fun b e => by omega))) (Since.of hk9)
  exact ⟨rfl, by rw [HQ.out]; exact hfin⟩
set_option maxRecDepth 100000 in
set_option maxHeartbeats 16000000 in
theorem rf_const {w : World} {A2 : Option Addr} {ca2 : Nat} {N2 : Option Addr} {cn2 : Nat} {kk kn : Int} {ks : Bytes} {once : Bool} (hf : RI.Fits w ⟨⟨2, 0, 0, 0, 0, [], kk, kn, ks, [], 0, 0, (-1), once⟩, A2, ca2, N2, cn2⟩) (hck : ConstK kk kn ks) : Calls Tryd.prog 84 #[.agg (RI.cells ⟨⟨2, 0, 0, 0, 0, [], kk, kn, ks, [], 0, 0, (-1), once⟩, A2, ca2, N2, cn2⟩).toArray] w fun e w' => e = .returned (.bool true) ∧ Since w.heap.size w w' := by
  have HM0 := Lib.hid (fun w => const_any hck w)
  have HE := Lib.hid (show ∀ W, Calls Tryd.prog 97 #[.int .i64 2, .int .i64 0, .int .i64 21] W fun e w' => e = .returned (.bool true) ∧ W = w' from fun W => (within_any 2 0 21 W).mono (fun e w' h => ⟨by rw [h.1]; simp <;> omega, h.2⟩))
  have HS := Lib.hid (show ∀ W, Since w.heap.size w W → Calls Tryd.prog 47 #[.agg #[.int .i64 2, .int .i64 0, .int .i64 0, .int .i64 0, .int .i64 0, .slice A2 0 ca2, .int .i64 kk, .int .i64 kn, .string (sb ks), .slice N2 0 cn2, .int .i64 0, .int .i64 0, .int .i64 (-1), .bool once], .agg #[.int .i64 2, .int .i64 0, .int .i64 0, .int .i64 0, .int .i64 0, .slice none 0 0, .int .i64 kk, .int .i64 kn, .string (sb ks), .slice none 0 0, .int .i64 0, .int .i64 0, .int .i64 (-1), .bool once]] W fun e w' => e = .returned (.bool true) ∧ Keep (fun _ => False) W w' from fun W hW => same_any ⟨2, 0, 0, 0, 0, [], kk, kn, ks, [], 0, 0, (-1), once⟩ A2 ca2 N2 cn2 none 0 none 0 ⟨hf.1.since hW, hf.2.since hW⟩ ⟨Lies.nil _ _ _, Lies.nil _ _ _⟩)
  have HU := Lib.hid (show ∀ W, Since w.heap.size w W → Calls Tryd.prog 56 #[.agg #[.int .i64 2, .int .i64 0, .int .i64 0, .int .i64 0, .int .i64 0, .slice A2 0 ca2, .int .i64 kk, .int .i64 kn, .string (sb ks), .slice N2 0 cn2, .int .i64 0, .int .i64 0, .int .i64 (-1), .bool once]] W fun e w' => ∃ Ax cx, e = .returned (.slice Ax 0 cx) ∧ IntsAt w' Ax 0 (TI.uses ⟨2, 0, 0, 0, 0, [], kk, kn, ks, [], 0, 0, (-1), once⟩) ∧ Keep (fun _ => False) W w' from fun W hW => used_any ⟨⟨2, 0, 0, 0, 0, [], kk, kn, ks, [], 0, 0, (-1), once⟩, A2, ca2, N2, cn2⟩ ⟨hf.1.since hW, hf.2.since hW⟩)
  have HCK := Lib.hid hck
  clear hf hck
  unfold RI.cells
  dsimp only
  try rw [show ([] : List Int).length = 0 from rfl]
  try rw [show ([] : List Bytes).length = 0 from rfl]
  have HX := Lib.hid (heap_alloc_new w (.cells #[.int .i64 2, .int .i64 0, .int .i64 0, .int .i64 0, .int .i64 0, .slice A2 0 ca2, .int .i64 kk, .int .i64 kn, .string (sb ks), .slice N2 0 cn2, .int .i64 0, .int .i64 0, .int .i64 (-1), .bool once] 60))
  go_enter Tryd.func84, Tryd.ntmps84
  go_upto_region 6 with (fail)
  obtain ⟨w1, hw1⟩ : ∃ W : World, ((w.alloc (.cells #[.int .i64 2, .int .i64 0, .int .i64 0, .int .i64 0, .int .i64 0, .slice A2 0 ca2, .int .i64 kk, .int .i64 kn, .string (sb ks), .slice N2 0 cn2, .int .i64 0, .int .i64 0, .int .i64 (-1), .bool once] 60)).alloc (.cells #[.int .i64 2, .int .i64 0, .int .i64 0, .int .i64 0, .int .i64 0, .slice none 0 0, .int .i64 0, .int .i64 0, .string ⟨#[]⟩, .slice none 0 0, .int .i64 0, .int .i64 0, .int .i64 (-1), .bool once] 60)) = W := ⟨_, rfl⟩
  have hk1 : Since w.heap.size w w1 := by rw [← hw1]; exact Since.of (((Keep.refl (fun _ => False) w).alloc' _).alloc' _)
  have hb1 : w1.heap[w.heap.size + 1]? = some (.cells #[.int .i64 2, .int .i64 0, .int .i64 0, .int .i64 0, .int .i64 0, .slice none 0 0, .int .i64 0, .int .i64 0, .string ⟨#[]⟩, .slice none 0 0, .int .i64 0, .int .i64 0, .int .i64 (-1), .bool once] 60 (0, 0)) := by rw [← hw1]; simpa using heap_alloc_new (w.alloc (.cells #[.int .i64 2, .int .i64 0, .int .i64 0, .int .i64 0, .int .i64 0, .slice A2 0 ca2, .int .i64 kk, .int .i64 kn, .string (sb ks), .slice N2 0 cn2, .int .i64 0, .int .i64 0, .int .i64 (-1), .bool once] 60)) (.cells #[.int .i64 2, .int .i64 0, .int .i64 0, .int .i64 0, .int .i64 0, .slice none 0 0, .int .i64 0, .int .i64 0, .string ⟨#[]⟩, .slice none 0 0, .int .i64 0, .int .i64 0, .int .i64 (-1), .bool once] 60)
  have hb0 : w1.heap[w.heap.size]? = some (.cells #[.int .i64 2, .int .i64 0, .int .i64 0, .int .i64 0, .int .i64 0, .slice A2 0 ca2, .int .i64 kk, .int .i64 kn, .string (sb ks), .slice N2 0 cn2, .int .i64 0, .int .i64 0, .int .i64 (-1), .bool once] 60 (0, 0)) := by rw [← hw1]; exact alloc_old' (heap_alloc_new w _)
  rw [hw1]
  obtain ⟨q, hq⟩ : ∃ q, w.heap.size = q := ⟨_, rfl⟩
  rw [hq] at hk1 hb0 hb1 HS HU
  rw [hq]
  have HQ := Lib.hid hq
  have HK1 := Lib.hid hk1
  have HB0 := Lib.hid hb0
  have HB1 := Lib.hid hb1
  have x0 := (blk_cell hb0 0).trans rfl
  have x1 := (blk_cell hb0 1).trans rfl
  have x2 := (blk_cell hb0 2).trans rfl
  have x3 := (blk_cell hb0 3).trans rfl
  have x4 := (blk_cell hb0 4).trans rfl
  have x5 := (blk_cell hb0 5).trans rfl
  have x6 := (blk_cell hb0 6).trans rfl
  have x7 := (blk_cell hb0 7).trans rfl
  have x8 := (blk_cell hb0 8).trans rfl
  have x9 := (blk_cell hb0 9).trans rfl
  have x10 := (blk_cell hb0 10).trans rfl
  have x11 := (blk_cell hb0 11).trans rfl
  have x12 := (blk_cell hb0 12).trans rfl
  have x13 := (blk_cell hb0 13).trans rfl
  clear hk1 hb0 hb1 hw1 hq HX
  go_wp2_with fail
  ((with_reducible refine (HU.out _ HK1.out).mono ?_); rintro ee w2 ⟨Au, cu, rfl, _, hk2⟩)
  clear x0 x1 x2 x3 x4 x5 x6 x7 x8 x9 x10 x11 x12 x13
  have h20 := (hk2.block q (blk_lt HB0.out) id).trans HB0.out
  have h21 := (hk2.block (q + 1) (blk_lt HB1.out) id).trans HB1.out
  have HK2 := Lib.hid (Keep.trans HK1.out (Since.of hk2))
  have HB20 := Lib.hid h20
  have HB21 := Lib.hid h21
  have x0 : w2.cell? ⟨q, 0, none⟩ = some (.int .i64 2) := (blk_cell h20 0).trans rfl
  have x1 : w2.cell? ⟨q, 1, none⟩ = some (.int .i64 0) := (blk_cell h20 1).trans rfl
  have x2 : w2.cell? ⟨q, 2, none⟩ = some (.int .i64 0) := (blk_cell h20 2).trans rfl
  have x3 : w2.cell? ⟨q, 3, none⟩ = some (.int .i64 0) := (blk_cell h20 3).trans rfl
  have x4 : w2.cell? ⟨q, 4, none⟩ = some (.int .i64 0) := (blk_cell h20 4).trans rfl
  have x5 : w2.cell? ⟨q, 5, none⟩ = some (.slice A2 0 ca2) := (blk_cell h20 5).trans rfl
  have x6 : w2.cell? ⟨q, 6, none⟩ = some (.int .i64 kk) := (blk_cell h20 6).trans rfl
  have x7 : w2.cell? ⟨q, 7, none⟩ = some (.int .i64 kn) := (blk_cell h20 7).trans rfl
  have x8 : w2.cell? ⟨q, 8, none⟩ = some (.string (sb ks)) := (blk_cell h20 8).trans rfl
  have x9 : w2.cell? ⟨q, 9, none⟩ = some (.slice N2 0 cn2) := (blk_cell h20 9).trans rfl
  have x10 : w2.cell? ⟨q, 10, none⟩ = some (.int .i64 0) := (blk_cell h20 10).trans rfl
  have x11 : w2.cell? ⟨q, 11, none⟩ = some (.int .i64 0) := (blk_cell h20 11).trans rfl
  have x12 : w2.cell? ⟨q, 12, none⟩ = some (.int .i64 (-1)) := (blk_cell h20 12).trans rfl
  have x13 : w2.cell? ⟨q, 13, none⟩ = some (.bool once) := (blk_cell h20 13).trans rfl
  have y0 : w2.cell? ⟨q + 1, 0, none⟩ = some (.int .i64 2) := (blk_cell h21 0).trans rfl
  have y1 : w2.cell? ⟨q + 1, 1, none⟩ = some (.int .i64 0) := (blk_cell h21 1).trans rfl
  have y2 : w2.cell? ⟨q + 1, 2, none⟩ = some (.int .i64 0) := (blk_cell h21 2).trans rfl
  have y3 : w2.cell? ⟨q + 1, 3, none⟩ = some (.int .i64 0) := (blk_cell h21 3).trans rfl
  have y4 : w2.cell? ⟨q + 1, 4, none⟩ = some (.int .i64 0) := (blk_cell h21 4).trans rfl
  have y5 : w2.cell? ⟨q + 1, 5, none⟩ = some (.slice none 0 0) := (blk_cell h21 5).trans rfl
  have y6 : w2.cell? ⟨q + 1, 6, none⟩ = some (.int .i64 0) := (blk_cell h21 6).trans rfl
  have y7 : w2.cell? ⟨q + 1, 7, none⟩ = some (.int .i64 0) := (blk_cell h21 7).trans rfl
  have y8 : w2.cell? ⟨q + 1, 8, none⟩ = some (.string ⟨#[]⟩) := (blk_cell h21 8).trans rfl
  have y9 : w2.cell? ⟨q + 1, 9, none⟩ = some (.slice none 0 0) := (blk_cell h21 9).trans rfl
  have y10 : w2.cell? ⟨q + 1, 10, none⟩ = some (.int .i64 0) := (blk_cell h21 10).trans rfl
  have y11 : w2.cell? ⟨q + 1, 11, none⟩ = some (.int .i64 0) := (blk_cell h21 11).trans rfl
  have y12 : w2.cell? ⟨q + 1, 12, none⟩ = some (.int .i64 (-1)) := (blk_cell h21 12).trans rfl
  have y13 : w2.cell? ⟨q + 1, 13, none⟩ = some (.bool once) := (blk_cell h21 13).trans rfl
  have f6 := blk_free h21 6
  have f7 := blk_free h21 7
  have f8 := blk_free h21 8
  clear hk2 h20 h21 HU
  go_wp2_with fail
  ((with_reducible refine (HM0.out _).mono ?_); rintro ee w3 ⟨rfl, hk3⟩)
  clear x0 y0 x1 y1 x2 y2 x3 y3 x4 y4 x5 y5 x6 y6 x7 y7 x8 y8 x9 y9 x10 y10 x11 y11 x12 y12 x13 y13 f6 f7 f8
  have hks := keep_set (keep_set (keep_set (Keep.refl (fun b => b = q + 1) w2) 6 (.int .i64 kk)) 7 (.int .i64 kn)) 8 (.string (sb ks))
  have h30 := (hk3.block q (by have := blk_lt HB20.out; have := hks.size; omega) id).trans ((hks.block q (blk_lt HB20.out) (by omega)).trans HB20.out)
  have h31 : w3.heap[q + 1]? = some (.cells #[.int .i64 2, .int .i64 0, .int .i64 0, .int .i64 0, .int .i64 0, .slice none 0 0, .int .i64 kk, .int .i64 kn, .string (sb ks), .slice none 0 0, .int .i64 0, .int .i64 0, .int .i64 (-1), .bool once] 60 (0, 0)) := (hk3.block (q + 1) (by have := blk_lt HB21.out; have := hks.size; omega) id).trans ((blk_set (blk_set (blk_set HB21.out 6 (.int .i64 kk)) 7 (.int .i64 kn)) 8 (.string (sb ks))).trans (by simp only [List.setIfInBounds_toArray, List.set_cons_zero, List.set_cons_succ]))
  have HK2 := Lib.hid (show Since q w w3 from Keep.trans (Keep.trans HK2.out (Keep.mono hks (fun b e => by omega))) (Since.of hk3))
  have x0 : w3.cell? ⟨q, 0, none⟩ = some (.int .i64 2) := (blk_cell h30 0).trans rfl
  have x1 : w3.cell? ⟨q, 1, none⟩ = some (.int .i64 0) := (blk_cell h30 1).trans rfl
  have x2 : w3.cell? ⟨q, 2, none⟩ = some (.int .i64 0) := (blk_cell h30 2).trans rfl
  have x3 : w3.cell? ⟨q, 3, none⟩ = some (.int .i64 0) := (blk_cell h30 3).trans rfl
  have x4 : w3.cell? ⟨q, 4, none⟩ = some (.int .i64 0) := (blk_cell h30 4).trans rfl
  have x5 : w3.cell? ⟨q, 5, none⟩ = some (.slice A2 0 ca2) := (blk_cell h30 5).trans rfl
  have x6 : w3.cell? ⟨q, 6, none⟩ = some (.int .i64 kk) := (blk_cell h30 6).trans rfl
  have x7 : w3.cell? ⟨q, 7, none⟩ = some (.int .i64 kn) := (blk_cell h30 7).trans rfl
  have x8 : w3.cell? ⟨q, 8, none⟩ = some (.string (sb ks)) := (blk_cell h30 8).trans rfl
  have x9 : w3.cell? ⟨q, 9, none⟩ = some (.slice N2 0 cn2) := (blk_cell h30 9).trans rfl
  have x10 : w3.cell? ⟨q, 10, none⟩ = some (.int .i64 0) := (blk_cell h30 10).trans rfl
  have x11 : w3.cell? ⟨q, 11, none⟩ = some (.int .i64 0) := (blk_cell h30 11).trans rfl
  have x12 : w3.cell? ⟨q, 12, none⟩ = some (.int .i64 (-1)) := (blk_cell h30 12).trans rfl
  have x13 : w3.cell? ⟨q, 13, none⟩ = some (.bool once) := (blk_cell h30 13).trans rfl
  have y0 : w3.cell? ⟨q + 1, 0, none⟩ = some (.int .i64 2) := (blk_cell h31 0).trans rfl
  have y1 : w3.cell? ⟨q + 1, 1, none⟩ = some (.int .i64 0) := (blk_cell h31 1).trans rfl
  have y2 : w3.cell? ⟨q + 1, 2, none⟩ = some (.int .i64 0) := (blk_cell h31 2).trans rfl
  have y3 : w3.cell? ⟨q + 1, 3, none⟩ = some (.int .i64 0) := (blk_cell h31 3).trans rfl
  have y4 : w3.cell? ⟨q + 1, 4, none⟩ = some (.int .i64 0) := (blk_cell h31 4).trans rfl
  have y5 : w3.cell? ⟨q + 1, 5, none⟩ = some (.slice none 0 0) := (blk_cell h31 5).trans rfl
  have y6 : w3.cell? ⟨q + 1, 6, none⟩ = some (.int .i64 kk) := (blk_cell h31 6).trans rfl
  have y7 : w3.cell? ⟨q + 1, 7, none⟩ = some (.int .i64 kn) := (blk_cell h31 7).trans rfl
  have y8 : w3.cell? ⟨q + 1, 8, none⟩ = some (.string (sb ks)) := (blk_cell h31 8).trans rfl
  have y9 : w3.cell? ⟨q + 1, 9, none⟩ = some (.slice none 0 0) := (blk_cell h31 9).trans rfl
  have y10 : w3.cell? ⟨q + 1, 10, none⟩ = some (.int .i64 0) := (blk_cell h31 10).trans rfl
  have y11 : w3.cell? ⟨q + 1, 11, none⟩ = some (.int .i64 0) := (blk_cell h31 11).trans rfl
  have y12 : w3.cell? ⟨q + 1, 12, none⟩ = some (.int .i64 (-1)) := (blk_cell h31 12).trans rfl
  have y13 : w3.cell? ⟨q + 1, 13, none⟩ = some (.bool once) := (blk_cell h31 13).trans rfl
  clear hk3 h30 h31 hks HB20 HB21
  go_wp2_with fail
  ((with_reducible refine (HE.out _).mono ?_); rintro ee w' ⟨rfl, rfl⟩)
  go_wp2_with fail
  with_reducible refine Calls.mono (HS.out _ ?sc) ?_
  case sc => exact (Keep.trans HK2.out (Keep.mono (by repeat (first | exact Keep.refl (fun b => b = q + 1) _ | refine keep_set ?_ _ _)) (fun b e => by omega)))
  rintro ee w9 ⟨rfl, hk9⟩
  go_wp2_with fail
  go_ret
  have hfin : Since q w w9 := Keep.trans (Keep.trans HK2.out (Keep.mono (by repeat (first | exact Keep.refl (fun b => b = q + 1) _ | refine keep_set ?_ _ _)) (fun b e => by omega))) (Since.of hk9)
  exact ⟨rfl, by rw [HQ.out]; exact hfin⟩
set_option maxRecDepth 100000 in
set_option maxHeartbeats 16000000 in
theorem rf_unary3 {w : World} {A2 : Option Addr} {ca2 : Nat} {N2 : Option Addr} {cn2 : Nat} {a ex : Int} {once : Bool} (hf : RI.Fits w ⟨⟨3, a, 0, 0, 3, [], 0, 0, [], [], 0, 0, ex, once⟩, A2, ca2, N2, cn2⟩)  : Calls Tryd.prog 84 #[.agg (RI.cells ⟨⟨3, a, 0, 0, 3, [], 0, 0, [], [], 0, 0, ex, once⟩, A2, ca2, N2, cn2⟩).toArray] w fun e w' => e = .returned (.bool true) ∧ Since w.heap.size w w' := by
  have HE := Lib.hid (show ∀ W, Calls Tryd.prog 97 #[.int .i64 3, .int .i64 0, .int .i64 21] W fun e w' => e = .returned (.bool true) ∧ W = w' from fun W => (within_any 3 0 21 W).mono (fun e w' h => ⟨by rw [h.1]; simp <;> omega, h.2⟩))
  have HS := Lib.hid (show ∀ W, Since w.heap.size w W → Calls Tryd.prog 47 #[.agg #[.int .i64 3, .int .i64 a, .int .i64 0, .int .i64 0, .int .i64 3, .slice A2 0 ca2, .int .i64 0, .int .i64 0, .string ⟨#[]⟩, .slice N2 0 cn2, .int .i64 0, .int .i64 0, .int .i64 ex, .bool once], .agg #[.int .i64 3, .int .i64 a, .int .i64 0, .int .i64 0, .int .i64 3, .slice none 0 0, .int .i64 0, .int .i64 0, .string ⟨#[]⟩, .slice none 0 0, .int .i64 0, .int .i64 0, .int .i64 ex, .bool once]] W fun e w' => e = .returned (.bool true) ∧ Keep (fun _ => False) W w' from fun W hW => same_any ⟨3, a, 0, 0, 3, [], 0, 0, [], [], 0, 0, ex, once⟩ A2 ca2 N2 cn2 none 0 none 0 ⟨hf.1.since hW, hf.2.since hW⟩ ⟨Lies.nil _ _ _, Lies.nil _ _ _⟩)
  have HU := Lib.hid (show ∀ W, Since w.heap.size w W → Calls Tryd.prog 56 #[.agg #[.int .i64 3, .int .i64 a, .int .i64 0, .int .i64 0, .int .i64 3, .slice A2 0 ca2, .int .i64 0, .int .i64 0, .string ⟨#[]⟩, .slice N2 0 cn2, .int .i64 0, .int .i64 0, .int .i64 ex, .bool once]] W fun e w' => ∃ Ax cx, e = .returned (.slice Ax 1 cx) ∧ IntsAt w' Ax 1 (TI.uses ⟨3, a, 0, 0, 3, [], 0, 0, [], [], 0, 0, ex, once⟩) ∧ Keep (fun _ => False) W w' from fun W hW => used_any ⟨⟨3, a, 0, 0, 3, [], 0, 0, [], [], 0, 0, ex, once⟩, A2, ca2, N2, cn2⟩ ⟨hf.1.since hW, hf.2.since hW⟩)
  clear hf 
  unfold RI.cells
  dsimp only
  rw [show sb [] = (⟨#[]⟩ : ByteArray) from rfl]
  try rw [show ([] : List Int).length = 0 from rfl]
  try rw [show ([] : List Bytes).length = 0 from rfl]
  have HX := Lib.hid (heap_alloc_new w (.cells #[.int .i64 3, .int .i64 a, .int .i64 0, .int .i64 0, .int .i64 3, .slice A2 0 ca2, .int .i64 0, .int .i64 0, .string ⟨#[]⟩, .slice N2 0 cn2, .int .i64 0, .int .i64 0, .int .i64 ex, .bool once] 60))
  go_enter Tryd.func84, Tryd.ntmps84
  go_upto_region 6 with (fail)
  obtain ⟨w1, hw1⟩ : ∃ W : World, ((w.alloc (.cells #[.int .i64 3, .int .i64 a, .int .i64 0, .int .i64 0, .int .i64 3, .slice A2 0 ca2, .int .i64 0, .int .i64 0, .string ⟨#[]⟩, .slice N2 0 cn2, .int .i64 0, .int .i64 0, .int .i64 ex, .bool once] 60)).alloc (.cells #[.int .i64 3, .int .i64 0, .int .i64 0, .int .i64 0, .int .i64 0, .slice none 0 0, .int .i64 0, .int .i64 0, .string ⟨#[]⟩, .slice none 0 0, .int .i64 0, .int .i64 0, .int .i64 ex, .bool once] 60)) = W := ⟨_, rfl⟩
  have hk1 : Since w.heap.size w w1 := by rw [← hw1]; exact Since.of (((Keep.refl (fun _ => False) w).alloc' _).alloc' _)
  have hb1 : w1.heap[w.heap.size + 1]? = some (.cells #[.int .i64 3, .int .i64 0, .int .i64 0, .int .i64 0, .int .i64 0, .slice none 0 0, .int .i64 0, .int .i64 0, .string ⟨#[]⟩, .slice none 0 0, .int .i64 0, .int .i64 0, .int .i64 ex, .bool once] 60 (0, 0)) := by rw [← hw1]; simpa using heap_alloc_new (w.alloc (.cells #[.int .i64 3, .int .i64 a, .int .i64 0, .int .i64 0, .int .i64 3, .slice A2 0 ca2, .int .i64 0, .int .i64 0, .string ⟨#[]⟩, .slice N2 0 cn2, .int .i64 0, .int .i64 0, .int .i64 ex, .bool once] 60)) (.cells #[.int .i64 3, .int .i64 0, .int .i64 0, .int .i64 0, .int .i64 0, .slice none 0 0, .int .i64 0, .int .i64 0, .string ⟨#[]⟩, .slice none 0 0, .int .i64 0, .int .i64 0, .int .i64 ex, .bool once] 60)
  have hb0 : w1.heap[w.heap.size]? = some (.cells #[.int .i64 3, .int .i64 a, .int .i64 0, .int .i64 0, .int .i64 3, .slice A2 0 ca2, .int .i64 0, .int .i64 0, .string ⟨#[]⟩, .slice N2 0 cn2, .int .i64 0, .int .i64 0, .int .i64 ex, .bool once] 60 (0, 0)) := by rw [← hw1]; exact alloc_old' (heap_alloc_new w _)
  rw [hw1]
  obtain ⟨q, hq⟩ : ∃ q, w.heap.size = q := ⟨_, rfl⟩
  rw [hq] at hk1 hb0 hb1 HS HU
  rw [hq]
  have HQ := Lib.hid hq
  have HK1 := Lib.hid hk1
  have HB0 := Lib.hid hb0
  have HB1 := Lib.hid hb1
  have x0 := (blk_cell hb0 0).trans rfl
  have x1 := (blk_cell hb0 1).trans rfl
  have x2 := (blk_cell hb0 2).trans rfl
  have x3 := (blk_cell hb0 3).trans rfl
  have x4 := (blk_cell hb0 4).trans rfl
  have x5 := (blk_cell hb0 5).trans rfl
  have x6 := (blk_cell hb0 6).trans rfl
  have x7 := (blk_cell hb0 7).trans rfl
  have x8 := (blk_cell hb0 8).trans rfl
  have x9 := (blk_cell hb0 9).trans rfl
  have x10 := (blk_cell hb0 10).trans rfl
  have x11 := (blk_cell hb0 11).trans rfl
  have x12 := (blk_cell hb0 12).trans rfl
  have x13 := (blk_cell hb0 13).trans rfl
  clear hk1 hb0 hb1 hw1 hq HX
  go_wp2_with fail
  ((with_reducible refine (HU.out _ HK1.out).mono ?_); rintro ee w2 ⟨Au, cu, rfl, _, hk2⟩)
  clear x0 x1 x2 x3 x4 x5 x6 x7 x8 x9 x10 x11 x12 x13
  have h20 := (hk2.block q (blk_lt HB0.out) id).trans HB0.out
  have h21 := (hk2.block (q + 1) (blk_lt HB1.out) id).trans HB1.out
  have HK2 := Lib.hid (Keep.trans HK1.out (Since.of hk2))
  have HB20 := Lib.hid h20
  have HB21 := Lib.hid h21
  have x0 : w2.cell? ⟨q, 0, none⟩ = some (.int .i64 3) := (blk_cell h20 0).trans rfl
  have x1 : w2.cell? ⟨q, 1, none⟩ = some (.int .i64 a) := (blk_cell h20 1).trans rfl
  have x2 : w2.cell? ⟨q, 2, none⟩ = some (.int .i64 0) := (blk_cell h20 2).trans rfl
  have x3 : w2.cell? ⟨q, 3, none⟩ = some (.int .i64 0) := (blk_cell h20 3).trans rfl
  have x4 : w2.cell? ⟨q, 4, none⟩ = some (.int .i64 3) := (blk_cell h20 4).trans rfl
  have x5 : w2.cell? ⟨q, 5, none⟩ = some (.slice A2 0 ca2) := (blk_cell h20 5).trans rfl
  have x6 : w2.cell? ⟨q, 6, none⟩ = some (.int .i64 0) := (blk_cell h20 6).trans rfl
  have x7 : w2.cell? ⟨q, 7, none⟩ = some (.int .i64 0) := (blk_cell h20 7).trans rfl
  have x8 : w2.cell? ⟨q, 8, none⟩ = some (.string ⟨#[]⟩) := (blk_cell h20 8).trans rfl
  have x9 : w2.cell? ⟨q, 9, none⟩ = some (.slice N2 0 cn2) := (blk_cell h20 9).trans rfl
  have x10 : w2.cell? ⟨q, 10, none⟩ = some (.int .i64 0) := (blk_cell h20 10).trans rfl
  have x11 : w2.cell? ⟨q, 11, none⟩ = some (.int .i64 0) := (blk_cell h20 11).trans rfl
  have x12 : w2.cell? ⟨q, 12, none⟩ = some (.int .i64 ex) := (blk_cell h20 12).trans rfl
  have x13 : w2.cell? ⟨q, 13, none⟩ = some (.bool once) := (blk_cell h20 13).trans rfl
  have y0 : w2.cell? ⟨q + 1, 0, none⟩ = some (.int .i64 3) := (blk_cell h21 0).trans rfl
  have y1 : w2.cell? ⟨q + 1, 1, none⟩ = some (.int .i64 0) := (blk_cell h21 1).trans rfl
  have y2 : w2.cell? ⟨q + 1, 2, none⟩ = some (.int .i64 0) := (blk_cell h21 2).trans rfl
  have y3 : w2.cell? ⟨q + 1, 3, none⟩ = some (.int .i64 0) := (blk_cell h21 3).trans rfl
  have y4 : w2.cell? ⟨q + 1, 4, none⟩ = some (.int .i64 0) := (blk_cell h21 4).trans rfl
  have y5 : w2.cell? ⟨q + 1, 5, none⟩ = some (.slice none 0 0) := (blk_cell h21 5).trans rfl
  have y6 : w2.cell? ⟨q + 1, 6, none⟩ = some (.int .i64 0) := (blk_cell h21 6).trans rfl
  have y7 : w2.cell? ⟨q + 1, 7, none⟩ = some (.int .i64 0) := (blk_cell h21 7).trans rfl
  have y8 : w2.cell? ⟨q + 1, 8, none⟩ = some (.string ⟨#[]⟩) := (blk_cell h21 8).trans rfl
  have y9 : w2.cell? ⟨q + 1, 9, none⟩ = some (.slice none 0 0) := (blk_cell h21 9).trans rfl
  have y10 : w2.cell? ⟨q + 1, 10, none⟩ = some (.int .i64 0) := (blk_cell h21 10).trans rfl
  have y11 : w2.cell? ⟨q + 1, 11, none⟩ = some (.int .i64 0) := (blk_cell h21 11).trans rfl
  have y12 : w2.cell? ⟨q + 1, 12, none⟩ = some (.int .i64 ex) := (blk_cell h21 12).trans rfl
  have y13 : w2.cell? ⟨q + 1, 13, none⟩ = some (.bool once) := (blk_cell h21 13).trans rfl
  have f1 := blk_free h21 1
  have f4 := blk_free h21 4
  clear hk2 h20 h21 HU
  go_wp2_with fail
  ((with_reducible refine (HE.out _).mono ?_); rintro ee w' ⟨rfl, rfl⟩)
  go_wp2_with fail
  with_reducible refine Calls.mono (HS.out _ ?sc) ?_
  case sc => exact (Keep.trans HK2.out (Keep.mono (by repeat (first | exact Keep.refl (fun b => b = q + 1) _ | refine keep_set ?_ _ _)) (fun b e => by omega)))
  rintro ee w9 ⟨rfl, hk9⟩
  go_wp2_with fail
  go_ret
  have hfin : Since q w w9 := Keep.trans (Keep.trans HK2.out (Keep.mono (by repeat (first | exact Keep.refl (fun b => b = q + 1) _ | refine keep_set ?_ _ _)) (fun b e => by omega))) (Since.of hk9)
  exact ⟨rfl, by rw [HQ.out]; exact hfin⟩
set_option maxRecDepth 100000 in
set_option maxHeartbeats 16000000 in
theorem rf_unary4 {w : World} {A2 : Option Addr} {ca2 : Nat} {N2 : Option Addr} {cn2 : Nat} {a ex : Int} {once : Bool} (hf : RI.Fits w ⟨⟨3, a, 0, 0, 4, [], 0, 0, [], [], 0, 0, ex, once⟩, A2, ca2, N2, cn2⟩)  : Calls Tryd.prog 84 #[.agg (RI.cells ⟨⟨3, a, 0, 0, 4, [], 0, 0, [], [], 0, 0, ex, once⟩, A2, ca2, N2, cn2⟩).toArray] w fun e w' => e = .returned (.bool true) ∧ Since w.heap.size w w' := by
  have HE := Lib.hid (show ∀ W, Calls Tryd.prog 97 #[.int .i64 3, .int .i64 0, .int .i64 21] W fun e w' => e = .returned (.bool true) ∧ W = w' from fun W => (within_any 3 0 21 W).mono (fun e w' h => ⟨by rw [h.1]; simp <;> omega, h.2⟩))
  have HS := Lib.hid (show ∀ W, Since w.heap.size w W → Calls Tryd.prog 47 #[.agg #[.int .i64 3, .int .i64 a, .int .i64 0, .int .i64 0, .int .i64 4, .slice A2 0 ca2, .int .i64 0, .int .i64 0, .string ⟨#[]⟩, .slice N2 0 cn2, .int .i64 0, .int .i64 0, .int .i64 ex, .bool once], .agg #[.int .i64 3, .int .i64 a, .int .i64 0, .int .i64 0, .int .i64 4, .slice none 0 0, .int .i64 0, .int .i64 0, .string ⟨#[]⟩, .slice none 0 0, .int .i64 0, .int .i64 0, .int .i64 ex, .bool once]] W fun e w' => e = .returned (.bool true) ∧ Keep (fun _ => False) W w' from fun W hW => same_any ⟨3, a, 0, 0, 4, [], 0, 0, [], [], 0, 0, ex, once⟩ A2 ca2 N2 cn2 none 0 none 0 ⟨hf.1.since hW, hf.2.since hW⟩ ⟨Lies.nil _ _ _, Lies.nil _ _ _⟩)
  have HU := Lib.hid (show ∀ W, Since w.heap.size w W → Calls Tryd.prog 56 #[.agg #[.int .i64 3, .int .i64 a, .int .i64 0, .int .i64 0, .int .i64 4, .slice A2 0 ca2, .int .i64 0, .int .i64 0, .string ⟨#[]⟩, .slice N2 0 cn2, .int .i64 0, .int .i64 0, .int .i64 ex, .bool once]] W fun e w' => ∃ Ax cx, e = .returned (.slice Ax 1 cx) ∧ IntsAt w' Ax 1 (TI.uses ⟨3, a, 0, 0, 4, [], 0, 0, [], [], 0, 0, ex, once⟩) ∧ Keep (fun _ => False) W w' from fun W hW => used_any ⟨⟨3, a, 0, 0, 4, [], 0, 0, [], [], 0, 0, ex, once⟩, A2, ca2, N2, cn2⟩ ⟨hf.1.since hW, hf.2.since hW⟩)
  clear hf 
  unfold RI.cells
  dsimp only
  rw [show sb [] = (⟨#[]⟩ : ByteArray) from rfl]
  try rw [show ([] : List Int).length = 0 from rfl]
  try rw [show ([] : List Bytes).length = 0 from rfl]
  have HX := Lib.hid (heap_alloc_new w (.cells #[.int .i64 3, .int .i64 a, .int .i64 0, .int .i64 0, .int .i64 4, .slice A2 0 ca2, .int .i64 0, .int .i64 0, .string ⟨#[]⟩, .slice N2 0 cn2, .int .i64 0, .int .i64 0, .int .i64 ex, .bool once] 60))
  go_enter Tryd.func84, Tryd.ntmps84
  go_upto_region 6 with (fail)
  obtain ⟨w1, hw1⟩ : ∃ W : World, ((w.alloc (.cells #[.int .i64 3, .int .i64 a, .int .i64 0, .int .i64 0, .int .i64 4, .slice A2 0 ca2, .int .i64 0, .int .i64 0, .string ⟨#[]⟩, .slice N2 0 cn2, .int .i64 0, .int .i64 0, .int .i64 ex, .bool once] 60)).alloc (.cells #[.int .i64 3, .int .i64 0, .int .i64 0, .int .i64 0, .int .i64 0, .slice none 0 0, .int .i64 0, .int .i64 0, .string ⟨#[]⟩, .slice none 0 0, .int .i64 0, .int .i64 0, .int .i64 ex, .bool once] 60)) = W := ⟨_, rfl⟩
  have hk1 : Since w.heap.size w w1 := by rw [← hw1]; exact Since.of (((Keep.refl (fun _ => False) w).alloc' _).alloc' _)
  have hb1 : w1.heap[w.heap.size + 1]? = some (.cells #[.int .i64 3, .int .i64 0, .int .i64 0, .int .i64 0, .int .i64 0, .slice none 0 0, .int .i64 0, .int .i64 0, .string ⟨#[]⟩, .slice none 0 0, .int .i64 0, .int .i64 0, .int .i64 ex, .bool once] 60 (0, 0)) := by rw [← hw1]; simpa using heap_alloc_new (w.alloc (.cells #[.int .i64 3, .int .i64 a, .int .i64 0, .int .i64 0, .int .i64 4, .slice A2 0 ca2, .int .i64 0, .int .i64 0, .string ⟨#[]⟩, .slice N2 0 cn2, .int .i64 0, .int .i64 0, .int .i64 ex, .bool once] 60)) (.cells #[.int .i64 3, .int .i64 0, .int .i64 0, .int .i64 0, .int .i64 0, .slice none 0 0, .int .i64 0, .int .i64 0, .string ⟨#[]⟩, .slice none 0 0, .int .i64 0, .int .i64 0, .int .i64 ex, .bool once] 60)
  have hb0 : w1.heap[w.heap.size]? = some (.cells #[.int .i64 3, .int .i64 a, .int .i64 0, .int .i64 0, .int .i64 4, .slice A2 0 ca2, .int .i64 0, .int .i64 0, .string ⟨#[]⟩, .slice N2 0 cn2, .int .i64 0, .int .i64 0, .int .i64 ex, .bool once] 60 (0, 0)) := by rw [← hw1]; exact alloc_old' (heap_alloc_new w _)
  rw [hw1]
  obtain ⟨q, hq⟩ : ∃ q, w.heap.size = q := ⟨_, rfl⟩
  rw [hq] at hk1 hb0 hb1 HS HU
  rw [hq]
  have HQ := Lib.hid hq
  have HK1 := Lib.hid hk1
  have HB0 := Lib.hid hb0
  have HB1 := Lib.hid hb1
  have x0 := (blk_cell hb0 0).trans rfl
  have x1 := (blk_cell hb0 1).trans rfl
  have x2 := (blk_cell hb0 2).trans rfl
  have x3 := (blk_cell hb0 3).trans rfl
  have x4 := (blk_cell hb0 4).trans rfl
  have x5 := (blk_cell hb0 5).trans rfl
  have x6 := (blk_cell hb0 6).trans rfl
  have x7 := (blk_cell hb0 7).trans rfl
  have x8 := (blk_cell hb0 8).trans rfl
  have x9 := (blk_cell hb0 9).trans rfl
  have x10 := (blk_cell hb0 10).trans rfl
  have x11 := (blk_cell hb0 11).trans rfl
  have x12 := (blk_cell hb0 12).trans rfl
  have x13 := (blk_cell hb0 13).trans rfl
  clear hk1 hb0 hb1 hw1 hq HX
  go_wp2_with fail
  ((with_reducible refine (HU.out _ HK1.out).mono ?_); rintro ee w2 ⟨Au, cu, rfl, _, hk2⟩)
  clear x0 x1 x2 x3 x4 x5 x6 x7 x8 x9 x10 x11 x12 x13
  have h20 := (hk2.block q (blk_lt HB0.out) id).trans HB0.out
  have h21 := (hk2.block (q + 1) (blk_lt HB1.out) id).trans HB1.out
  have HK2 := Lib.hid (Keep.trans HK1.out (Since.of hk2))
  have HB20 := Lib.hid h20
  have HB21 := Lib.hid h21
  have x0 : w2.cell? ⟨q, 0, none⟩ = some (.int .i64 3) := (blk_cell h20 0).trans rfl
  have x1 : w2.cell? ⟨q, 1, none⟩ = some (.int .i64 a) := (blk_cell h20 1).trans rfl
  have x2 : w2.cell? ⟨q, 2, none⟩ = some (.int .i64 0) := (blk_cell h20 2).trans rfl
  have x3 : w2.cell? ⟨q, 3, none⟩ = some (.int .i64 0) := (blk_cell h20 3).trans rfl
  have x4 : w2.cell? ⟨q, 4, none⟩ = some (.int .i64 4) := (blk_cell h20 4).trans rfl
  have x5 : w2.cell? ⟨q, 5, none⟩ = some (.slice A2 0 ca2) := (blk_cell h20 5).trans rfl
  have x6 : w2.cell? ⟨q, 6, none⟩ = some (.int .i64 0) := (blk_cell h20 6).trans rfl
  have x7 : w2.cell? ⟨q, 7, none⟩ = some (.int .i64 0) := (blk_cell h20 7).trans rfl
  have x8 : w2.cell? ⟨q, 8, none⟩ = some (.string ⟨#[]⟩) := (blk_cell h20 8).trans rfl
  have x9 : w2.cell? ⟨q, 9, none⟩ = some (.slice N2 0 cn2) := (blk_cell h20 9).trans rfl
  have x10 : w2.cell? ⟨q, 10, none⟩ = some (.int .i64 0) := (blk_cell h20 10).trans rfl
  have x11 : w2.cell? ⟨q, 11, none⟩ = some (.int .i64 0) := (blk_cell h20 11).trans rfl
  have x12 : w2.cell? ⟨q, 12, none⟩ = some (.int .i64 ex) := (blk_cell h20 12).trans rfl
  have x13 : w2.cell? ⟨q, 13, none⟩ = some (.bool once) := (blk_cell h20 13).trans rfl
  have y0 : w2.cell? ⟨q + 1, 0, none⟩ = some (.int .i64 3) := (blk_cell h21 0).trans rfl
  have y1 : w2.cell? ⟨q + 1, 1, none⟩ = some (.int .i64 0) := (blk_cell h21 1).trans rfl
  have y2 : w2.cell? ⟨q + 1, 2, none⟩ = some (.int .i64 0) := (blk_cell h21 2).trans rfl
  have y3 : w2.cell? ⟨q + 1, 3, none⟩ = some (.int .i64 0) := (blk_cell h21 3).trans rfl
  have y4 : w2.cell? ⟨q + 1, 4, none⟩ = some (.int .i64 0) := (blk_cell h21 4).trans rfl
  have y5 : w2.cell? ⟨q + 1, 5, none⟩ = some (.slice none 0 0) := (blk_cell h21 5).trans rfl
  have y6 : w2.cell? ⟨q + 1, 6, none⟩ = some (.int .i64 0) := (blk_cell h21 6).trans rfl
  have y7 : w2.cell? ⟨q + 1, 7, none⟩ = some (.int .i64 0) := (blk_cell h21 7).trans rfl
  have y8 : w2.cell? ⟨q + 1, 8, none⟩ = some (.string ⟨#[]⟩) := (blk_cell h21 8).trans rfl
  have y9 : w2.cell? ⟨q + 1, 9, none⟩ = some (.slice none 0 0) := (blk_cell h21 9).trans rfl
  have y10 : w2.cell? ⟨q + 1, 10, none⟩ = some (.int .i64 0) := (blk_cell h21 10).trans rfl
  have y11 : w2.cell? ⟨q + 1, 11, none⟩ = some (.int .i64 0) := (blk_cell h21 11).trans rfl
  have y12 : w2.cell? ⟨q + 1, 12, none⟩ = some (.int .i64 ex) := (blk_cell h21 12).trans rfl
  have y13 : w2.cell? ⟨q + 1, 13, none⟩ = some (.bool once) := (blk_cell h21 13).trans rfl
  have f1 := blk_free h21 1
  have f4 := blk_free h21 4
  clear hk2 h20 h21 HU
  go_wp2_with fail
  ((with_reducible refine (HE.out _).mono ?_); rintro ee w' ⟨rfl, rfl⟩)
  go_wp2_with fail
  with_reducible refine Calls.mono (HS.out _ ?sc) ?_
  case sc => exact (Keep.trans HK2.out (Keep.mono (by repeat (first | exact Keep.refl (fun b => b = q + 1) _ | refine keep_set ?_ _ _)) (fun b e => by omega)))
  rintro ee w9 ⟨rfl, hk9⟩
  go_wp2_with fail
  go_ret
  have hfin : Since q w w9 := Keep.trans (Keep.trans HK2.out (Keep.mono (by repeat (first | exact Keep.refl (fun b => b = q + 1) _ | refine keep_set ?_ _ _)) (fun b e => by omega))) (Since.of hk9)
  exact ⟨rfl, by rw [HQ.out]; exact hfin⟩
end Go.Proofs.YtnbpgipbfejllaaDoor
