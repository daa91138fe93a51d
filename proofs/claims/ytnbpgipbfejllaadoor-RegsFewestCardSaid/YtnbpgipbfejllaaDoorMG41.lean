/- A copy of an instruction. -/
import Derived.Test.YtnbpgipbfejllaaDoorMG40
import Derived.Test.YtnbpgipbfejllaaDoorMK0
import Derived.Test.YtnbpgipbfejllaaDoorMG47
import Derived.Laws.ResultCell
import Derived.Test.YtnbpgipbfejllaaDoorMG6
namespace Go.Proofs.YtnbpgipbfejllaaDoor
open Go.RowKit Go.Lib
set_option linter.unusedVariables false
set_option linter.unusedSimpArgs false

theorem own_fresh (w : World) (e : TypeId) : (w.alloc (.cells #[] e)).ownsRow w.heap.size e 1 (.slice (some ⟨w.heap.size, 0, none⟩) 0 0) 0 [] :=
  ⟨by simp, .inr ⟨w.heap.size, 0, #[], rfl, Nat.le_refl _, heap_alloc_new _ _, Nat.le_refl _, by unfold maxLen; omega, by simp, by simp⟩⟩
set_option maxRecDepth 100000 in
set_option maxHeartbeats 8000000 in
theorem copyins_any {w : World} (r : RI) (hf : r.Fits w) (ha : r.x.args.length ≤ 1000) (hnm : r.x.names.length ≤ 1000) : Calls Tryd.prog 62 #[.agg r.cells.toArray] w fun e w' => ∃ A' ca' N' cn', e = .returned (.agg (RI.cells ⟨r.x, A', ca', N', cn'⟩).toArray) ∧ RI.Fits w' ⟨r.x, A', ca', N', cn'⟩ ∧ Since w.heap.size w w' := by
  obtain ⟨⟨op, a, b, c, nn, args, kk, kn, ks, names, pf, pl, ex, once⟩, A2, ca2, N2, cn2⟩ := r
  unfold RI.cells
  dsimp only at ha hnm ⊢
  have HF := Lib.hid hf
  have HK := Lib.hid ((((Keep.refl (fun _ => False) w).alloc' (.cells #[.int .i64 op, .int .i64 a, .int .i64 b, .int .i64 c, .int .i64 nn, .slice A2 args.length ca2, .int .i64 kk, .int .i64 kn, .string (sb ks), .slice N2 names.length cn2, .int .i64 pf, .int .i64 pl, .int .i64 ex, .bool once] 60)).alloc' (.cells #[.int .i64 0, .int .i64 0, .int .i64 0, .int .i64 0, .int .i64 0, .slice none 0 0, .int .i64 0, .int .i64 0, .string ⟨#[]⟩, .slice none 0 0, .int .i64 0, .int .i64 0, .int .i64 0, .bool false] 60)).alloc' (.cells #[.int .i64 op, .int .i64 a, .int .i64 b, .int .i64 c, .int .i64 nn, .slice A2 args.length ca2, .int .i64 kk, .int .i64 kn, .string (sb ks), .slice N2 names.length cn2, .int .i64 pf, .int .i64 pl, .int .i64 ex, .bool once] 60))
  have HB0 := Lib.hid (show (((w.alloc (.cells #[.int .i64 op, .int .i64 a, .int .i64 b, .int .i64 c, .int .i64 nn, .slice A2 args.length ca2, .int .i64 kk, .int .i64 kn, .string (sb ks), .slice N2 names.length cn2, .int .i64 pf, .int .i64 pl, .int .i64 ex, .bool once] 60)).alloc (.cells #[.int .i64 0, .int .i64 0, .int .i64 0, .int .i64 0, .int .i64 0, .slice none 0 0, .int .i64 0, .int .i64 0, .string ⟨#[]⟩, .slice none 0 0, .int .i64 0, .int .i64 0, .int .i64 0, .bool false] 60)).alloc (.cells #[.int .i64 op, .int .i64 a, .int .i64 b, .int .i64 c, .int .i64 nn, .slice A2 args.length ca2, .int .i64 kk, .int .i64 kn, .string (sb ks), .slice N2 names.length cn2, .int .i64 pf, .int .i64 pl, .int .i64 ex, .bool once] 60)).heap[w.heap.size]? = some (.cells #[.int .i64 op, .int .i64 a, .int .i64 b, .int .i64 c, .int .i64 nn, .slice A2 args.length ca2, .int .i64 kk, .int .i64 kn, .string (sb ks), .slice N2 names.length cn2, .int .i64 pf, .int .i64 pl, .int .i64 ex, .bool once] 60 (0, 0)) from alloc_old' (alloc_old' (heap_alloc_new w _)))
  have HB1 := Lib.hid (show (((w.alloc (.cells #[.int .i64 op, .int .i64 a, .int .i64 b, .int .i64 c, .int .i64 nn, .slice A2 args.length ca2, .int .i64 kk, .int .i64 kn, .string (sb ks), .slice N2 names.length cn2, .int .i64 pf, .int .i64 pl, .int .i64 ex, .bool once] 60)).alloc (.cells #[.int .i64 0, .int .i64 0, .int .i64 0, .int .i64 0, .int .i64 0, .slice none 0 0, .int .i64 0, .int .i64 0, .string ⟨#[]⟩, .slice none 0 0, .int .i64 0, .int .i64 0, .int .i64 0, .bool false] 60)).alloc (.cells #[.int .i64 op, .int .i64 a, .int .i64 b, .int .i64 c, .int .i64 nn, .slice A2 args.length ca2, .int .i64 kk, .int .i64 kn, .string (sb ks), .slice N2 names.length cn2, .int .i64 pf, .int .i64 pl, .int .i64 ex, .bool once] 60)).heap[w.heap.size + 1]? = some (.cells #[.int .i64 0, .int .i64 0, .int .i64 0, .int .i64 0, .int .i64 0, .slice none 0 0, .int .i64 0, .int .i64 0, .string ⟨#[]⟩, .slice none 0 0, .int .i64 0, .int .i64 0, .int .i64 0, .bool false] 60 (0, 0)) from alloc_old' (by simpa using heap_alloc_new (w.alloc (.cells #[.int .i64 op, .int .i64 a, .int .i64 b, .int .i64 c, .int .i64 nn, .slice A2 args.length ca2, .int .i64 kk, .int .i64 kn, .string (sb ks), .slice N2 names.length cn2, .int .i64 pf, .int .i64 pl, .int .i64 ex, .bool once] 60)) (.cells #[.int .i64 0, .int .i64 0, .int .i64 0, .int .i64 0, .int .i64 0, .slice none 0 0, .int .i64 0, .int .i64 0, .string ⟨#[]⟩, .slice none 0 0, .int .i64 0, .int .i64 0, .int .i64 0, .bool false] 60)))
  have HB2 := Lib.hid (show (((w.alloc (.cells #[.int .i64 op, .int .i64 a, .int .i64 b, .int .i64 c, .int .i64 nn, .slice A2 args.length ca2, .int .i64 kk, .int .i64 kn, .string (sb ks), .slice N2 names.length cn2, .int .i64 pf, .int .i64 pl, .int .i64 ex, .bool once] 60)).alloc (.cells #[.int .i64 0, .int .i64 0, .int .i64 0, .int .i64 0, .int .i64 0, .slice none 0 0, .int .i64 0, .int .i64 0, .string ⟨#[]⟩, .slice none 0 0, .int .i64 0, .int .i64 0, .int .i64 0, .bool false] 60)).alloc (.cells #[.int .i64 op, .int .i64 a, .int .i64 b, .int .i64 c, .int .i64 nn, .slice A2 args.length ca2, .int .i64 kk, .int .i64 kn, .string (sb ks), .slice N2 names.length cn2, .int .i64 pf, .int .i64 pl, .int .i64 ex, .bool once] 60)).heap[w.heap.size + 1 + 1]? = some (.cells #[.int .i64 op, .int .i64 a, .int .i64 b, .int .i64 c, .int .i64 nn, .slice A2 args.length ca2, .int .i64 kk, .int .i64 kn, .string (sb ks), .slice N2 names.length cn2, .int .i64 pf, .int .i64 pl, .int .i64 ex, .bool once] 60 (0, 0)) from by simpa using heap_alloc_new ((w.alloc (.cells #[.int .i64 op, .int .i64 a, .int .i64 b, .int .i64 c, .int .i64 nn, .slice A2 args.length ca2, .int .i64 kk, .int .i64 kn, .string (sb ks), .slice N2 names.length cn2, .int .i64 pf, .int .i64 pl, .int .i64 ex, .bool once] 60)).alloc (.cells #[.int .i64 0, .int .i64 0, .int .i64 0, .int .i64 0, .int .i64 0, .slice none 0 0, .int .i64 0, .int .i64 0, .string ⟨#[]⟩, .slice none 0 0, .int .i64 0, .int .i64 0, .int .i64 0, .bool false] 60)) (.cells #[.int .i64 op, .int .i64 a, .int .i64 b, .int .i64 c, .int .i64 nn, .slice A2 args.length ca2, .int .i64 kk, .int .i64 kn, .string (sb ks), .slice N2 names.length cn2, .int .i64 pf, .int .i64 pl, .int .i64 ex, .bool once] 60))
  clear hf
  go_enter Tryd.func62, Tryd.ntmps62
  go_upto_region 2 with (fail)
  obtain ⟨w1, hw1⟩ : ∃ W : World, (((w.alloc (.cells #[.int .i64 op, .int .i64 a, .int .i64 b, .int .i64 c, .int .i64 nn, .slice A2 args.length ca2, .int .i64 kk, .int .i64 kn, .string (sb ks), .slice N2 names.length cn2, .int .i64 pf, .int .i64 pl, .int .i64 ex, .bool once] 60)).alloc (.cells #[.int .i64 0, .int .i64 0, .int .i64 0, .int .i64 0, .int .i64 0, .slice none 0 0, .int .i64 0, .int .i64 0, .string ⟨#[]⟩, .slice none 0 0, .int .i64 0, .int .i64 0, .int .i64 0, .bool false] 60)).alloc (.cells #[.int .i64 op, .int .i64 a, .int .i64 b, .int .i64 c, .int .i64 nn, .slice A2 args.length ca2, .int .i64 kk, .int .i64 kn, .string (sb ks), .slice N2 names.length cn2, .int .i64 pf, .int .i64 pl, .int .i64 ex, .bool once] 60)) = W := ⟨_, rfl⟩
  obtain ⟨q, hq⟩ : ∃ q, w.heap.size = q := ⟨_, rfl⟩
  have HSZ := Lib.hid (show w1.heap.size = q + 3 by rw [← hw1, ← hq]; simp)
  rw [hw1] at HK HB0 HB1 HB2
  rw [hq] at HB0 HB1 HB2
  rw [hw1, hq]
  have HQ := Lib.hid hq
  clear hw1 hq
  have HF1 := Lib.hid (RI.Fits.keep HF.out HK.out (fun _ _ _ => id) (fun _ _ _ => id))
  have y5 := (blk_cell (alloc_old' (o' := .cells #[] 3) HB0.out) 5).trans rfl
  have hownA := own_fresh w1 3
  have hsrcA := (HF1.out.1.quiet ((Keep.refl (fun _ => False) w1).alloc' (.cells #[] 3))).1
  have HOA := Lib.hid hownA
  have HSA := Lib.hid hsrcA
  clear hownA hsrcA
  go_wp2_with (at_builtin; refine wpList_append_any 22 3 _ 8 w1.heap.size Tryd.ints1 _ _ rfl rfl _ 0 [] rfl (by exact HOA.out) A2 args.length ca2 (ints args) rfl (by exact HSA.out) (ints_one _) (by omega) (by decide) (by simp) ?_)
  intro v1 w2 hown hgr hblk
  obtain ⟨R1, c1, rfl⟩ := own_slice hown
  try simp only [Nat.zero_add, List.nil_append] at hown
  try simp only [Nat.zero_add]
  have HO1 := Lib.hid hown
  have HK12 := Lib.hid (show Keep (fun _ => False) w1 w2 from ((Keep.refl (fun _ => False) w1).alloc' (.cells #[] 3)).then (own_keep' hgr) (fun i e => .inr (Nat.le_of_eq (by simpa [Value.ownBlock] using e))))
  have hb2 := (HK12.out.block (q + 1 + 1) (blk_lt HB2.out) id).trans HB2.out
  have HB22 := Lib.hid hb2
  have g5 := (blk_cell hb2 5).trans rfl
  have f5 := blk_free hb2 5
  clear hown hgr hblk hb2 y5
  go_upto_region 3 with (fail)
  have hb3 : (w2.setCell ⟨q + 1 + 1, 5, none⟩ (.slice R1 args.length c1)).heap[q + 1 + 1]? = some (.cells #[.int .i64 op, .int .i64 a, .int .i64 b, .int .i64 c, .int .i64 nn, .slice R1 args.length c1, .int .i64 kk, .int .i64 kn, .string (sb ks), .slice N2 names.length cn2, .int .i64 pf, .int .i64 pl, .int .i64 ex, .bool once] 60 (0, 0)) := (blk_set HB22.out 5 (.slice R1 args.length c1)).trans (by simp only [List.setIfInBounds_toArray, List.set_cons_zero, List.set_cons_succ])
  have hk3 := keep_set (Keep.refl (fun i => i = q + 1 + 1) w2) 5 (.slice R1 args.length c1)
  obtain ⟨w3, hw3⟩ : ∃ W : World, w2.setCell ⟨q + 1 + 1, 5, none⟩ (.slice R1 args.length c1) = W := ⟨_, rfl⟩
  rw [hw3] at hb3 hk3
  rw [hw3]
  have HB32 := Lib.hid hb3
  have HK13 := Lib.hid (show Keep (fun i => i = q + 1 + 1) w1 w3 from Keep.trans (Keep.mono HK12.out (fun _ e => e.elim)) hk3)
  have hb0 := (HK13.out.block q (blk_lt HB0.out) (by omega)).trans HB0.out
  have y7 := (blk_cell (alloc_old' (o' := .cells #[] 9) hb0) 9).trans rfl
  have HLN3 := Lib.hid (HF1.out.2.keep HK13.out (fun g cur hg e => by subst e; rw [HB2.out] at hg; injection hg with hg; injection hg with _ hg; revert hg; decide))
  have HOB := Lib.hid (own_fresh w3 9)
  have HSB := Lib.hid (HLN3.out.quiet ((Keep.refl (fun _ => False) w3).alloc' (.cells #[] 9))).1
  have HK3 := Lib.hid hk3
  clear hb3 hk3 hw3 hb0 g5 f5
  go_wp2_with (at_builtin; refine wpList_append_any 58 9 _ 16 w3.heap.size Tryd.ints2 _ _ rfl rfl _ 0 [] rfl (by exact HOB.out) N2 names.length cn2 (strs names) rfl (by exact HSB.out) (strs_one _) (by omega) (by decide) (by simp) ?_)
  intro v2 w4 hown hgr hblk
  obtain ⟨R2, c2, rfl⟩ := own_slice hown
  try simp only [Nat.zero_add, List.nil_append] at hown
  try simp only [Nat.zero_add]
  have HO2 := Lib.hid hown
  have HK34 := Lib.hid (show Keep (fun _ => False) w3 w4 from ((Keep.refl (fun _ => False) w3).alloc' (.cells #[] 9)).then (own_keep' hgr) (fun i e => .inr (Nat.le_of_eq (by simpa [Value.ownBlock] using e))))
  have hb4 := (HK34.out.block (q + 1 + 1) (blk_lt HB32.out) id).trans HB32.out
  have HB42 := Lib.hid hb4
  have g5 := (blk_cell hb4 9).trans rfl
  have f5 := blk_free hb4 9
  clear hown hgr hblk hb4 y7
  go_upto_region 4 with (fail)
  have hb5 : (w4.setCell ⟨q + 1 + 1, 9, none⟩ (.slice R2 names.length c2)).heap[q + 1 + 1]? = some (.cells #[.int .i64 op, .int .i64 a, .int .i64 b, .int .i64 c, .int .i64 nn, .slice R1 args.length c1, .int .i64 kk, .int .i64 kn, .string (sb ks), .slice R2 names.length c2, .int .i64 pf, .int .i64 pl, .int .i64 ex, .bool once] 60 (0, 0)) := (blk_set HB42.out 9 (.slice R2 names.length c2)).trans (by simp only [List.setIfInBounds_toArray, List.set_cons_zero, List.set_cons_succ])
  have hk5 := keep_set (Keep.refl (fun i => i = q + 1 + 1) w4) 9 (.slice R2 names.length c2)
  obtain ⟨w5, hw5⟩ : ∃ W : World, w4.setCell ⟨q + 1 + 1, 9, none⟩ (.slice R2 names.length c2) = W := ⟨_, rfl⟩
  rw [hw5] at hb5 hk5
  rw [hw5]
  have HK15 := Lib.hid (show Keep (fun i => i = q + 1 + 1) w1 w5 from Keep.trans HK13.out (Keep.trans (Keep.mono HK34.out (fun _ e => e.elim)) hk5))
  have HK25 := Lib.hid (show Keep (fun i => i = q + 1 + 1) w2 w5 from Keep.trans HK3.out (Keep.trans (Keep.mono HK34.out (fun _ e => e.elim)) hk5))
  have HK45 := Lib.hid hk5
  have hz := (HK15.out.block (q + 1) (blk_lt HB1.out) (by omega)).trans HB1.out
  have HZ := Lib.hid hz
  have s0 := (blk_cell hb5 0).trans rfl
  have d0 := (blk_cell hz 0).trans rfl
  have f0 := blk_free hz 0
  have s1 := (blk_cell hb5 1).trans rfl
  have d1 := (blk_cell hz 1).trans rfl
  have f1 := blk_free hz 1
  have s2 := (blk_cell hb5 2).trans rfl
  have d2 := (blk_cell hz 2).trans rfl
  have f2 := blk_free hz 2
  have s3 := (blk_cell hb5 3).trans rfl
  have d3 := (blk_cell hz 3).trans rfl
  have f3 := blk_free hz 3
  have s4 := (blk_cell hb5 4).trans rfl
  have d4 := (blk_cell hz 4).trans rfl
  have f4 := blk_free hz 4
  have s5 := (blk_cell hb5 5).trans rfl
  have d5 := (blk_cell hz 5).trans rfl
  have f5 := blk_free hz 5
  have s6 := (blk_cell hb5 6).trans rfl
  have d6 := (blk_cell hz 6).trans rfl
  have f6 := blk_free hz 6
  have s7 := (blk_cell hb5 7).trans rfl
  have d7 := (blk_cell hz 7).trans rfl
  have f7 := blk_free hz 7
  have s8 := (blk_cell hb5 8).trans rfl
  have d8 := (blk_cell hz 8).trans rfl
  have f8 := blk_free hz 8
  have s9 := (blk_cell hb5 9).trans rfl
  have d9 := (blk_cell hz 9).trans rfl
  have f9 := blk_free hz 9
  have s10 := (blk_cell hb5 10).trans rfl
  have d10 := (blk_cell hz 10).trans rfl
  have f10 := blk_free hz 10
  have s11 := (blk_cell hb5 11).trans rfl
  have d11 := (blk_cell hz 11).trans rfl
  have f11 := blk_free hz 11
  have s12 := (blk_cell hb5 12).trans rfl
  have d12 := (blk_cell hz 12).trans rfl
  have f12 := blk_free hz 12
  have s13 := (blk_cell hb5 13).trans rfl
  have d13 := (blk_cell hz 13).trans rfl
  have f13 := blk_free hz 13
  clear hb5 hk5 hw5 hz g5
  go_wp2_with fail
  have hfin := blk_set (blk_set (blk_set (blk_set (blk_set (blk_set (blk_set (blk_set (blk_set (blk_set (blk_set (blk_set (blk_set (blk_set (HZ.out) 0 (.int .i64 op)) 1 (.int .i64 a)) 2 (.int .i64 b)) 3 (.int .i64 c)) 4 (.int .i64 nn)) 5 (.slice R1 args.length c1)) 6 (.int .i64 kk)) 7 (.int .i64 kn)) 8 (.string (sb ks))) 9 (.slice R2 names.length c2)) 10 (.int .i64 pf)) 11 (.int .i64 pl)) 12 (.int .i64 ex)) 13 (.bool once)
  simp only [List.setIfInBounds_toArray, List.set_cons_zero, List.set_cons_succ] at hfin
  have hk6 : Keep (fun i => i = q + 1) w5 ((((((((((((((w5.setCell ⟨q + 1, 0, none⟩ (.int .i64 op)).setCell ⟨q + 1, 1, none⟩ (.int .i64 a)).setCell ⟨q + 1, 2, none⟩ (.int .i64 b)).setCell ⟨q + 1, 3, none⟩ (.int .i64 c)).setCell ⟨q + 1, 4, none⟩ (.int .i64 nn)).setCell ⟨q + 1, 5, none⟩ (.slice R1 args.length c1)).setCell ⟨q + 1, 6, none⟩ (.int .i64 kk)).setCell ⟨q + 1, 7, none⟩ (.int .i64 kn)).setCell ⟨q + 1, 8, none⟩ (.string (sb ks))).setCell ⟨q + 1, 9, none⟩ (.slice R2 names.length c2)).setCell ⟨q + 1, 10, none⟩ (.int .i64 pf)).setCell ⟨q + 1, 11, none⟩ (.int .i64 pl)).setCell ⟨q + 1, 12, none⟩ (.int .i64 ex)).setCell ⟨q + 1, 13, none⟩ (.bool once)) := keep_set (keep_set (keep_set (keep_set (keep_set (keep_set (keep_set (keep_set (keep_set (keep_set (keep_set (keep_set (keep_set (keep_set (Keep.refl (fun i => i = q + 1) w5) 0 _) 1 _) 2 _) 3 _) 4 _) 5 _) 6 _) 7 _) 8 _) 9 _) 10 _) 11 _) 12 _) 13 _
  refine bodyPost_ret (results_cell_row rfl _ _ (q + 1) _ _ _ _ rfl hfin Tryd.underlying60 rfl (by kernel_rfl)) rfl ?_
  have hno : ∀ (t' : TypeId) (W : World) (k : Nat) (cs : Array Value), 60 ≠ t' → W.heap[k]? = some (.cells cs 60 (0, 0)) → ∀ g cur, W.heap[g]? = some (.cells cur t' (0, 0)) → ¬ g = k := by
    intro t' W k cs ht h1 g cur h2 e
    subst e
    rw [h1] at h2
    injection h2 with h2
    injection h2 with _ h2
    exact ht h2
  have l1 := Lies.own HO1.out (by decide) (by omega)
  rw [Nat.mul_one] at l1
  have l2 := Lies.own HO2.out (by decide) (by omega)
  rw [Nat.mul_one] at l2
  refine ⟨R1, c1, R2, c2, rfl, ⟨?_, ?_⟩, ?_⟩
  · exact (l1.keep HK25.out (hno _ _ _ _ (by decide) HB22.out)).keep hk6 (hno _ _ _ _ (by decide) HZ.out)
  · exact (l2.keep HK45.out (hno _ _ _ _ (by decide) HB42.out)).keep hk6 (hno _ _ _ _ (by decide) HZ.out)
  · exact Keep.trans (Since.of HK.out) (Keep.trans (Keep.mono HK15.out (fun k e => by have := HQ.out; omega)) (Keep.mono hk6 (fun k e => by have := HQ.out; omega)))
end Go.Proofs.YtnbpgipbfejllaaDoor
/- A copy of an exit. -/
namespace Go.Proofs.YtnbpgipbfejllaaDoor
open Go.RowKit Go.Lib
set_option linter.unusedVariables false
set_option linter.unusedSimpArgs false

theorem own_ltb {w : World} {base : Nat} {e : TypeId} {size n k : Nat} {v : Value} {xs : List Value} (h : w.ownsRow base e size v n xs) (hk : v.ownBlock = some k) : k < w.heap.size := by
  rcases h.2 with ⟨rfl, _⟩ | ⟨g, cap, cur, rfl, _, hg, _⟩
  · simp [Value.ownBlock] at hk
  · simp [Value.ownBlock] at hk
    subst hk
    exact blk_lt hg
/-- A copy while it is made. -/
structure CX (W : World) (q2 : Nat) (F : List RF) (bk : Int) (j : Nat) (AF : Option Addr) (cF : Nat) (Fj : List RF) (wr : World) : Prop where
  blk : wr.heap[q2]? = some (.cells #[.slice AF j cF, .slice none 0 0, .int .i64 bk] 83 (0, 0))
  row : wr.ownsRow W.heap.size 95 3 (.slice AF j cF) j (rowF Fj)
  fit : ∀ f ∈ Fj, f.Fits wr
  map : Fj.map (·.x) = (F.map (·.x)).take j
  keep : Keep (fun b => b = q2 ∨ W.heap.size ≤ b) W wr
theorem CX.quiet {W : World} {q2 : Nat} {F : List RF} {bk : Int} {j : Nat} {AF : Option Addr} {cF : Nat} {Fj : List RF} {wr w' : World} (h : CX W q2 F bk j AF cF Fj wr) (hk : Keep (fun _ => False) wr w') : CX W q2 F bk j AF cF Fj w' :=
  ⟨(hk.block q2 (blk_lt h.blk) id).trans h.blk, hk.own h.row (fun _ _ => id), fun f hf => (h.fit f hf).keep hk (fun _ _ _ => id), h.map, Keep.trans h.keep (Keep.mono hk (fun _ e => e.elim))⟩
theorem CX.grow {W : World} {q2 : Nat} {F : List RF} {bk : Int} {j : Nat} {AF : Option Addr} {cF : Nat} {Fj : List RF} {wr w5 w6 w7 : World} (h : CX W q2 F bk j AF cF Fj wr) (hq2 : q2 < W.heap.size) {bf : Nat} (hbf : bf = wr.heap.size) (h5 : Keep (fun _ => False) wr w5) (hb5 : ∃ cs, w5.heap[bf]? = some (.cells cs 95 (0, 0))) (h6 : Keep (fun b => b = bf) w5 w6)
    (f : RF) (hx : f.x = (F.map (·.x)).getD j RF.dflt.x) (hj : j < F.length) (hf5 : f.Fits w5) (o : Obj) {g cap : Nat} (hown : w7.ownsRow W.heap.size 95 3 (.slice (some ⟨g, 0, none⟩) (j + 1) cap) (j + 1) (rowF Fj ++ f.cells)) (hgr : (w6.alloc o).grownBy w7 (Value.slice AF j cF).ownBlock) :
    w7.heap[q2]? = some (.cells #[.slice AF j cF, .slice none 0 0, .int .i64 bk] 83 (0, 0)) ∧ CX W q2 F bk (j + 1) (some ⟨g, 0, none⟩) cap (Fj ++ [f]) (w7.setCell ⟨q2, 0, none⟩ (.slice (some ⟨g, 0, none⟩) (j + 1) cap)) := by
  obtain ⟨cs5, hb5⟩ := hb5
  have hq := h.quiet h5
  have hbl : ∀ b, (Value.slice AF j cF).ownBlock = some b → b < wr.heap.size := fun b e => own_ltb h.row e
  have k7 : Keep (fun b => (Value.slice AF j cF).ownBlock = some b) w6 w7 := Keep.trans (Keep.mono ((Keep.refl (fun _ => False) w6).alloc' o) (fun _ e => e.elim)) (own_keep' hgr)
  have hq26 := (h6.block q2 (blk_lt hq.blk) (by have := blk_lt h.blk; omega)).trans hq.blk
  have row6 := h6.own hq.row (fun k e => by have := hbl k e; omega)
  have hq27 := (k7.block q2 (blk_lt hq26) (fun e => blk_own_ne hq26 row6 e (by decide) rfl)).trans hq26
  have hk8 := keep_set (Keep.refl (fun b => b = q2) w7) 0 (.slice (some ⟨g, 0, none⟩) (j + 1) cap)
  have fk : ∀ (y : RF), y.Fits w5 → y.Fits (w7.setCell ⟨q2, 0, none⟩ (.slice (some ⟨g, 0, none⟩) (j + 1) cap)) := by
    intro y hy
    have y6 : y.Fits w6 := hy.keep h6 (fun g' cur hg e => by subst e; rw [hb5] at hg; injection hg with hg; injection hg with _ hg; revert hg; decide)
    have y7 : y.Fits w7 := y6.keep k7 (fun g' cur hg e => blk_own_ne hg row6 e (by decide) rfl)
    exact y7.keep hk8 (fun g' cur hg e => by subst e; rw [hq27] at hg; injection hg with hg; injection hg with _ hg; revert hg; decide)
  refine ⟨hq27, ⟨?_, ?_, ?_, ?_, ?_⟩⟩
  · exact (blk_set hq27 0 _).trans (by simp only [List.setIfInBounds_toArray, List.set_cons_zero, List.set_cons_succ])
  · have h9 := hk8.own hown (fun k e => blk_own_ne hq27 hown e (by decide))
    show World.ownsRow _ _ _ _ _ _ (rowG RF.cells (Fj ++ [f]))
    rw [rowG_append, rowG_one]
    exact h9
  · intro y hy
    rcases List.mem_append.1 hy with hy | hy
    · exact fk y (hq.fit y hy)
    · rw [List.mem_singleton.1 hy]
      exact fk f hf5
  · rw [List.map_append, h.map, List.map_singleton, hx, List.take_add_one, List.getD_eq_getElem?_getD, List.getElem?_eq_getElem (by rw [List.length_map]; exact hj)]
    rfl
  · refine Keep.trans hq.keep (Keep.trans (Keep.mono h6 (fun b e => .inr (by have := h.keep.size; omega))) (Keep.trans (Keep.mono k7 (fun b e => .inr (own_low h.row e))) (Keep.mono hk8 (fun b e => .inl e))))
end Go.Proofs.YtnbpgipbfejllaaDoor
/- A copy of an exit: the walk. -/
namespace Go.Proofs.YtnbpgipbfejllaaDoor
open Go.RowKit Go.Lib
set_option linter.unusedVariables false
set_option linter.unusedSimpArgs false

theorem EF.info : (Tryd.prog.info? 95).map (fun i => (i.zero, i.size, i.bytes)) = some (some (.agg #[.int .i64 0, .int .i64 0, .slice none 0 0]), 3, 40) := by kernel_rfl
set_option maxRecDepth 100000 in
set_option maxHeartbeats 8000000 in
theorem copyexit_any {w : World} (r : RX) (hf : r.Fits w) (hl : r.F.length ≤ 1000) (hv : ∀ f ∈ r.F, f.x.vars.length ≤ 1000) : Calls Tryd.prog 63 #[.agg r.cells.toArray] w fun e w' => ∃ A' c' F', e = .returned (.agg (RX.cells ⟨r.x, A', c', F'⟩).toArray) ∧ RX.Fits w' ⟨r.x, A', c', F'⟩ ∧ Since w.heap.size w w' := by
  obtain ⟨x, A2, c2, F⟩ := r
  have hmp := hf.2.2
  obtain ⟨frs, back⟩ := x
  unfold RX.cells
  dsimp only at hmp hl hv ⊢
  have HF := Lib.hid hf
  have HMP := Lib.hid hmp
  have HV := Lib.hid hv
  obtain ⟨i1, hi, hz0, hz1, hz2⟩ := info_parts EF.info
  have HI := Lib.hid hi
  have HZ0 := Lib.hid hz0
  have HZ1 := Lib.hid hz1
  have HZ2 := Lib.hid hz2
  clear hi hz0 hz1 hz2 hf hmp hv
  obtain ⟨M, hM⟩ : ∃ M, F.length = M := ⟨_, rfl⟩
  have HM := Lib.hid hM
  rw [hM] at hl
  rw [hM]
  clear hM
  have HK := Lib.hid ((((Keep.refl (fun _ => False) w).alloc' (.cells #[.slice A2 M c2, .slice none 0 0, .int .i64 back] 83)).alloc' (.cells #[.slice none 0 0, .slice none 0 0, .int .i64 0] 83)).alloc' (.cells #[.slice none 0 0, .slice none 0 0, .int .i64 back] 83))
  have HB0 := Lib.hid (show (((w.alloc (.cells #[.slice A2 M c2, .slice none 0 0, .int .i64 back] 83)).alloc (.cells #[.slice none 0 0, .slice none 0 0, .int .i64 0] 83)).alloc (.cells #[.slice none 0 0, .slice none 0 0, .int .i64 back] 83)).heap[w.heap.size]? = some (.cells #[.slice A2 M c2, .slice none 0 0, .int .i64 back] 83 (0, 0)) from alloc_old' (alloc_old' (heap_alloc_new w _)))
  have HB1 := Lib.hid (show (((w.alloc (.cells #[.slice A2 M c2, .slice none 0 0, .int .i64 back] 83)).alloc (.cells #[.slice none 0 0, .slice none 0 0, .int .i64 0] 83)).alloc (.cells #[.slice none 0 0, .slice none 0 0, .int .i64 back] 83)).heap[w.heap.size + 1]? = some (.cells #[.slice none 0 0, .slice none 0 0, .int .i64 0] 83 (0, 0)) from alloc_old' (by simpa using heap_alloc_new (w.alloc (.cells #[.slice A2 M c2, .slice none 0 0, .int .i64 back] 83)) (.cells #[.slice none 0 0, .slice none 0 0, .int .i64 0] 83)))
  have HB2 := Lib.hid (show (((w.alloc (.cells #[.slice A2 M c2, .slice none 0 0, .int .i64 back] 83)).alloc (.cells #[.slice none 0 0, .slice none 0 0, .int .i64 0] 83)).alloc (.cells #[.slice none 0 0, .slice none 0 0, .int .i64 back] 83)).heap[w.heap.size + 1 + 1]? = some (.cells #[.slice none 0 0, .slice none 0 0, .int .i64 back] 83 (0, 0)) from by simpa using heap_alloc_new ((w.alloc (.cells #[.slice A2 M c2, .slice none 0 0, .int .i64 back] 83)).alloc (.cells #[.slice none 0 0, .slice none 0 0, .int .i64 0] 83)) (.cells #[.slice none 0 0, .slice none 0 0, .int .i64 back] 83))
  go_enter Tryd.func63, Tryd.ntmps63
  go_upto_region 2 with (fail)
  obtain ⟨W, hW⟩ : ∃ W : World, (((w.alloc (.cells #[.slice A2 M c2, .slice none 0 0, .int .i64 back] 83)).alloc (.cells #[.slice none 0 0, .slice none 0 0, .int .i64 0] 83)).alloc (.cells #[.slice none 0 0, .slice none 0 0, .int .i64 back] 83)) = W := ⟨_, rfl⟩
  obtain ⟨q, hq⟩ : ∃ q, w.heap.size = q := ⟨_, rfl⟩
  have HSZ := Lib.hid (show W.heap.size = q + 1 + 1 + 1 by rw [← hW, ← hq]; simp)
  rw [hW] at HK HB0 HB1 HB2
  rw [hq] at HB0 HB1 HB2
  rw [hW, hq]
  have HQ := Lib.hid hq
  clear hW hq
  have HF1 := Lib.hid (RX.Fits.keep HF.out HK.out (fun _ _ _ => id) (fun _ _ _ => id))
  go_wp2_with fail
  go_loopw [4] (fun i wr => ∃ j : Nat, j ≤ M ∧ i = .int .i64 (j : Int) ∧ ∃ (AF : Option Addr) (cF : Nat) (Fj : List RF), Hid (CX W (q + 1 + 1) F back j AF cF Fj wr)) (fun i _ => M + 1 - (RowKit.intOf i).toNat)
  case atStart =>
    refine ⟨0, Nat.zero_le _, rfl, none, 0, [], Lib.hid ⟨HB2.out, World.ownsRow_nil _ _ _ _, by simp, by simp, Keep.refl _ _⟩⟩
  case round =>
    obtain ⟨j, hj, rfl, AF, cF, Fj, VV⟩ := hrel
    obtain ⟨wo, rfl⟩ : ∃ wo : World, wo = wr := ⟨_, rfl⟩
    have hb0 := (VV.out.keep.block q (by rw [HSZ.out]; omega) (by rw [HSZ.out]; omega)).trans HB0.out
    have c0 := (blk_cell hb0 0).trans rfl
    by_cases hlt : j < M
    · have hb1 : decide (j < M) = true := by simpa using hlt
      have hjF : j < F.length := by rw [HM.out]; exact hlt
      have HJF := Lib.hid hjF
      have HFO := Lib.hid (RX.Fits.keep HF1.out VV.out.keep (fun g cur hg e => by
        rcases e with e | e
        · subst e; rw [HB2.out] at hg; injection hg with hg; injection hg with _ hg; revert hg; decide
        · have := blk_lt hg; omega) (fun g cur hg e => by
        rcases e with e | e
        · subst e; rw [HB2.out] at hg; injection hg with hg; injection hg with _ hg; revert hg; decide
        · have := blk_lt hg; omega))
      obtain ⟨g, o, rfl, hc, hvv⟩ := HFO.out.frm (k := j) hjF
      have h3 := HV.out _ (getD_mem hjF : F.getD j RF.dflt ∈ F)
      have HFX := Lib.hid (show (F.getD j RF.dflt).x = (F.map (·.x)).getD j RF.dflt.x from by simp [List.getD_eq_getElem?_getD, hjF])
      obtain ⟨fr, hfe⟩ : ∃ fr, F.getD j RF.dflt = fr := ⟨_, rfl⟩
      dsimp only at hc hvv
      rw [hfe] at hc h3 hvv HFX
      obtain ⟨⟨fn, ln, vars⟩, Av, cv⟩ := fr
      dsimp only at hc h3 hvv HFX
      have z0 : wo.cell? ⟨g, o + j * 3, none⟩ = some (.int .i64 fn) := (hc 0 (by omega)).trans rfl
      have z1 : wo.cell? ⟨g, o + j * 3 + 1, none⟩ = some (.int .i64 ln) := (hc 1 (by omega)).trans rfl
      have z2 : wo.cell? ⟨g, o + j * 3 + 2, none⟩ = some (.slice Av vars.length cv) := (hc 2 (by omega)).trans rfl
      have HHV := Lib.hid hvv
      clear hc hfe hvv hb0 hjF
      go_upto_region 6 with (fail)
      have hk4 := (Keep.refl (fun _ => False) wo).alloc' (.cells #[.int .i64 fn, .int .i64 ln, .slice Av vars.length cv] 95)
      have hb4 := heap_alloc_new wo (.cells #[.int .i64 fn, .int .i64 ln, .slice Av vars.length cv] 95)
      obtain ⟨w4, hw4⟩ : ∃ V : World, wo.alloc (.cells #[.int .i64 fn, .int .i64 ln, .slice Av vars.length cv] 95) = V := ⟨_, rfl⟩
      obtain ⟨bf, hbf⟩ : ∃ b, wo.heap.size = b := ⟨_, rfl⟩
      rw [hw4] at hk4 hb4
      rw [hbf] at hb4
      rw [hw4, hbf]
      have HBF := Lib.hid hbf
      have HK4 := Lib.hid hk4
      have HB4 := Lib.hid hb4
      have HHV4 := Lib.hid (CellsAt.keep HHV.out hk4 (fun _ _ => id))
      have s0 := (blk_cell hb4 0).trans rfl
      have s1 := (blk_cell hb4 1).trans rfl
      have y7 := (blk_cell (alloc_old' (o' := .cells #[] 3) hb4) 2).trans rfl
      have HOA := Lib.hid (own_fresh w4 3)
      have HSA := Lib.hid (CellsAt.keep HHV4.out ((Keep.refl (fun _ => False) w4).alloc' (.cells #[] 3)) (fun _ _ => id))
      clear hk4 hb4 hw4 hbf z0 z1 z2 c0 s0 s1
      go_wp2_with (at_builtin; go_loud (refine wpList_append_any 22 3 _ 8 w4.heap.size Tryd.ints1 _ _ rfl rfl _ 0 [] rfl (by exact HOA.out) Av vars.length cv (ints vars) rfl (by exact HSA.out) (ints_one _) (by omega) (by decide) (by simp) ?_))
      intro v1 w5 hown hgr hblk
      obtain ⟨R1, c1, rfl⟩ := own_slice hown
      try simp only [Nat.zero_add, List.nil_append] at hown
      try simp only [Nat.zero_add]
      have HO1 := Lib.hid hown
      have HK45 := Lib.hid (show Keep (fun _ => False) w4 w5 from ((Keep.refl (fun _ => False) w4).alloc' (.cells #[] 3)).then (own_keep' hgr) (fun i e => .inr (Nat.le_of_eq (by simpa [Value.ownBlock] using e))))
      have hb5 := (HK45.out.block bf (blk_lt HB4.out) id).trans HB4.out
      have HB5 := Lib.hid hb5
      have HK5 := Lib.hid (Keep.trans HK4.out HK45.out)
      have g2 := (blk_cell hb5 2).trans rfl
      have f2 := blk_free hb5 2
      clear hown hgr hblk hb5 y7 HOA HSA
      go_upto_region 7 with (fail)
      have hb6 : (w5.setCell ⟨bf, 2, none⟩ (.slice R1 vars.length c1)).heap[bf]? = some (.cells #[.int .i64 fn, .int .i64 ln, .slice R1 vars.length c1] 95 (0, 0)) := (blk_set HB5.out 2 (.slice R1 vars.length c1)).trans (by simp only [List.setIfInBounds_toArray, List.set_cons_zero, List.set_cons_succ])
      have hk6 := keep_set (Keep.refl (fun i => i = bf) w5) 2 (.slice R1 vars.length c1)
      obtain ⟨w6, hw6⟩ : ∃ V : World, w5.setCell ⟨bf, 2, none⟩ (.slice R1 vars.length c1) = V := ⟨_, rfl⟩
      rw [hw6] at hb6 hk6
      rw [hw6]
      have HK6 := Lib.hid hk6
      have hcx := VV.out.quiet HK5.out
      have HCQ := Lib.hid ((hk6.block (q + 1 + 1) (blk_lt hcx.blk) (by have := blk_lt VV.out.blk; have := HBF.out; omega)).trans hcx.blk)
      have HROW := Lib.hid (hk6.own hcx.row (fun k e => by have := own_ltb VV.out.row e; have := HBF.out; omega))
      have HSB := Lib.hid (show W.heap.size ≤ w6.heap.size from Nat.le_trans VV.out.keep.size (Nat.le_trans HK5.out.size hk6.size))
      have t0 := (blk_cell HCQ.out 0).trans rfl
      have s0 := (blk_cell hb6 0).trans rfl
      have s1 := (blk_cell hb6 1).trans rfl
      have s2 := (blk_cell hb6 2).trans rfl
      clear hb6 hk6 hw6 hcx g2 f2
      go_wp2_with (at_builtin; go_loud (refine wpList_append_lies _ rfl _ _ _ rfl W.heap.size 95 i1 _ 3 40 Tryd.underlying80 HI.out HZ0.out HZ1.out HZ2.out rfl (by decide) (.slice AF j cF) j (rowF Fj) rfl (by exact HROW.out.alloc _) ⟨_, 0, none⟩ 1 1 _ rfl rfl (by exact World.news_of_block (heap_alloc_new _ _)) (by intro y hy; simp only [List.mem_cons, List.not_mem_nil, or_false] at hy; rcases hy with rfl | rfl | rfl <;> rfl) (by omega) (by unfold maxLen; omega) (by omega) (by have := HSB.out; simp; omega) _ rfl ?_))
      intro g8 cap8 w7 hown hgrow hat hlt8
      obtain ⟨hblk7, hnext⟩ := VV.out.grow (by rw [HSZ.out]; omega) HBF.out.symm HK5.out ⟨_, HB5.out⟩ HK6.out ⟨⟨fn, ln, vars⟩, R1, c1⟩ HFX.out HJF.out (by
        have l1 := Lies.own HO1.out (by decide) (by omega)
        rw [Nat.mul_one] at l1
        exact l1) _ hown hgrow
      have HNX := Lib.hid hnext
      have t1 := (blk_cell hblk7 0).trans rfl
      have t2 := blk_free hblk7 0
      clear hown hgrow hat hlt8 hblk7 hnext t0 s0 s1 s2
      go_wp2_with fail
      exact ⟨⟨j + 1, by omega, by go_num, _, _, _, HNX⟩, by simp [RowKit.intOf]; omega⟩
    · have hb1 : decide (j < M) = false := by simpa using hlt
      obtain rfl : j = M := by omega
      have c1 := (blk_cell hb0 1).trans rfl
      have HR2 := Lib.hid hb0
      clear hb0
      go_wp2_with fail
      go_loopw [6] (fun i wr => i = .int .i64 0 ∧ Hid (wo = wr)) (fun i _ => 0)
      case atStart => exact ⟨rfl, Lib.hid rfl⟩
      case round =>
        obtain ⟨rfl, HW0⟩ := hrel
        obtain ⟨wo, rfl⟩ : ∃ wo : World, wo = wr := ⟨_, rfl⟩
        obtain rfl := HW0.out
        have hB1 := (VV.out.keep.block (q + 1) (by rw [HSZ.out]; omega) (by rw [HSZ.out]; omega)).trans HB1.out
        have s0 := (blk_cell VV.out.blk 0).trans rfl
        have s1 := (blk_cell VV.out.blk 1).trans rfl
        have s2 := (blk_cell VV.out.blk 2).trans rfl
        have d0 := (blk_cell hB1 0).trans rfl
        have d1 := (blk_cell hB1 1).trans rfl
        have d2 := (blk_cell hB1 2).trans rfl
        have e0 := blk_free hB1 0
        have e1 := blk_free hB1 1
        have e2 := blk_free hB1 2
        have HB1' := Lib.hid hB1
        clear hB1
        go_wp2_with fail
        have hfin := blk_set (blk_set (blk_set HB1'.out 0 (.slice AF j cF)) 1 (.slice none 0 0)) 2 (.int .i64 back)
        simp only [List.setIfInBounds_toArray, List.set_cons_zero, List.set_cons_succ] at hfin
        have hk9 := keep_set (keep_set (keep_set (Keep.refl (fun b => b = q + 1) wo) 0 (.slice AF j cF)) 1 (.slice none 0 0)) 2 (.int .i64 back)
        refine bodyPost_ret (results_cell_row rfl _ _ (q + 1) _ _ _ _ rfl hfin Tryd.underlying83 rfl (by kernel_rfl)) rfl ?_
        have hmj : Fj.map (·.x) = frs := by
          have h9 := VV.out.map
          rw [← HM.out] at h9
          rw [List.take_of_length_le (by simp)] at h9
          rw [h9, HMP.out]
        have hlj : Fj.length = j := by
          have h9 := congrArg List.length hmj
          have h8 := congrArg List.length HMP.out
          have h7 := HM.out
          simp only [List.length_map] at h9 h8
          omega
        have hno : ∀ (t' : TypeId), 83 ≠ t' → ∀ g cur, wo.heap[g]? = some (.cells cur t' (0, 0)) → ¬ g = q + 1 := by
          intro t' ht g cur h2 e
          subst e
          rw [HB1'.out] at h2
          injection h2 with h2
          injection h2 with _ h2
          exact ht h2
        have l1 := Lies.own VV.out.row (by decide) (by omega)
        refine ⟨AF, cF, Fj, by rw [hlj], ⟨?_, ?_, hmj⟩, ?_⟩
        · rw [hlj]
          exact l1.keep hk9 (hno _ (by decide))
        · exact fun f hf => (VV.out.fit f hf).keep hk9 (hno _ (by decide))
        · exact Keep.trans (Since.of HK.out) (Keep.trans (Keep.mono VV.out.keep (fun k e => by have := HQ.out; have := HSZ.out; omega)) (Keep.mono hk9 (fun k e => by have := HQ.out; omega)))
end Go.Proofs.YtnbpgipbfejllaaDoor
/- A copy of a trace, while it is made. -/
namespace Go.Proofs.YtnbpgipbfejllaaDoor
open Go.RowKit Go.Lib
set_option linter.unusedVariables false
set_option linter.unusedSimpArgs false

structure CT (W : World) (q2 : Nat) (T : TR) (jI jX : Nat) (AI : Option Addr) (cI : Nat) (AX : Option Addr) (cX : Nat) (RJ : List RI) (XJ : List RX) (wr : World) : Prop where
  blk : wr.heap[q2]? = some (.cells #[.int .i64 T.pf, .int .i64 T.pl, .slice AI jI cI, .slice AX jX cX] 31 (0, 0))
  rowI : wr.ownsRow W.heap.size 60 14 (.slice AI jI cI) jI (rowI RJ)
  rowX : wr.ownsRow W.heap.size 83 3 (.slice AX jX cX) jX (rowX XJ)
  fitI : ∀ r ∈ RJ, r.Fits wr
  fitX : ∀ r ∈ XJ, r.Fits wr
  mapI : RJ.map (·.x) = T.ins.take jI
  mapX : XJ.map (·.x) = T.exits.take jX
  keep : Keep (fun b => b = q2 ∨ W.heap.size ≤ b) W wr
section
variable {W : World} {q2 : Nat} {T : TR} {jI jX : Nat} {AI : Option Addr} {cI : Nat} {AX : Option Addr} {cX : Nat} {RJ : List RI} {XJ : List RX} {wr w5 w7 : World}
theorem CT.later (h : CT W q2 T jI jX AI cI AX cX RJ XJ wr) (hk : Since wr.heap.size wr w5) : CT W q2 T jI jX AI cI AX cX RJ XJ w5 :=
  ⟨(hk.block q2 (blk_lt h.blk) (Nat.not_le_of_lt (blk_lt h.blk))).trans h.blk, hk.own h.rowI (fun k e => Nat.not_le_of_lt (own_ltb h.rowI e)), hk.own h.rowX (fun k e => Nat.not_le_of_lt (own_ltb h.rowX e)),
    fun r hr => (h.fitI r hr).keep hk (fun g cur hg e => by have := blk_lt hg; omega) (fun g cur hg e => by have := blk_lt hg; omega), fun r hr => (h.fitX r hr).keep hk (fun g cur hg e => by have := blk_lt hg; omega) (fun g cur hg e => by have := blk_lt hg; omega), h.mapI, h.mapX,
    Keep.trans h.keep (Keep.mono hk (fun b e => .inr (Nat.le_trans h.keep.size e)))⟩
theorem CT.growI (h0 : CT W q2 T jI jX AI cI AX cX RJ XJ wr) (hk : Since wr.heap.size wr w5) (x : RI) (hx : x.x = T.at_ jI) (hj : jI < T.ins.length) (hf : x.Fits w5) (o : Obj) {g cap : Nat}
    (hown : w7.ownsRow W.heap.size 60 14 (.slice (some ⟨g, 0, none⟩) (jI + 1) cap) (jI + 1) (Go.Proofs.YtnbpgipbfejllaaDoor.rowI RJ ++ x.cells)) (hgr : (w5.alloc o).grownBy w7 (Value.slice AI jI cI).ownBlock) :
    w7.heap[q2]? = some (.cells #[.int .i64 T.pf, .int .i64 T.pl, .slice AI jI cI, .slice AX jX cX] 31 (0, 0)) ∧ CT W q2 T (jI + 1) jX (some ⟨g, 0, none⟩) cap AX cX (RJ ++ [x]) XJ (w7.setCell ⟨q2, 2, none⟩ (.slice (some ⟨g, 0, none⟩) (jI + 1) cap)) := by
  have h := h0.later hk
  have k7 : Keep (fun b => (Value.slice AI jI cI).ownBlock = some b) w5 w7 := Keep.trans (Keep.mono ((Keep.refl (fun _ => False) w5).alloc' o) (fun _ e => e.elim)) (own_keep' hgr)
  have hq7 := (k7.block q2 (blk_lt h.blk) (fun e => blk_own_ne h.blk h.rowI e (by decide) rfl)).trans h.blk
  have hk8 := keep_set (Keep.refl (fun b => b = q2) w7) 2 (.slice (some ⟨g, 0, none⟩) (jI + 1) cap)
  have n8 : ∀ (t : TypeId), 31 ≠ t → ∀ g cur, w7.heap[g]? = some (.cells cur t (0, 0)) → ¬ g = q2 := fun t ht g cur hg e => by subst e; rw [hq7] at hg; injection hg with hg; injection hg with _ hg; exact ht hg
  have n7 : ∀ (t : TypeId), t ≠ 60 → ∀ g cur, w5.heap[g]? = some (.cells cur t (0, 0)) → ¬ (Value.slice AI jI cI).ownBlock = some g := fun t ht g cur hg e => blk_own_ne hg h.rowI e ht rfl
  have fI : ∀ r : RI, r.Fits w5 → r.Fits (w7.setCell ⟨q2, 2, none⟩ (.slice (some ⟨g, 0, none⟩) (jI + 1) cap)) := fun r hr => (hr.keep k7 (n7 _ (by decide)) (n7 _ (by decide))).keep hk8 (n8 _ (by decide)) (n8 _ (by decide))
  refine ⟨hq7, ⟨?_, ?_, ?_, ?_, ?_, ?_, h.mapX, ?_⟩⟩
  · exact (blk_set hq7 2 _).trans (by simp only [List.setIfInBounds_toArray, List.set_cons_zero, List.set_cons_succ])
  · have h9 := hk8.own hown (fun k e => blk_own_ne hq7 hown e (by decide))
    show World.ownsRow _ _ _ _ _ _ (rowG RI.cells (RJ ++ [x]))
    rw [rowG_append, rowG_one]
    exact h9
  · have r7 := k7.own h.rowX (fun k e e2 => by
      rcases h.rowX.2 with ⟨h1, _⟩ | ⟨g', cap', cur', h1, _, hg', _⟩
      · rw [h1] at e; simp [Value.ownBlock] at e
      · rw [h1] at e
        simp [Value.ownBlock] at e
        subst e
        exact blk_own_ne hg' h.rowI e2 (by decide) rfl)
    exact hk8.own r7 (fun k e => blk_own_ne hq7 r7 e (by decide))
  · intro r hr
    rcases List.mem_append.1 hr with hr | hr
    · exact fI r (h.fitI r hr)
    · rw [List.mem_singleton.1 hr]; exact fI x hf
  · exact fun r hr => ((h.fitX r hr).keep k7 (n7 _ (by decide)) (n7 _ (by decide))).keep hk8 (n8 _ (by decide)) (n8 _ (by decide))
  · rw [List.map_append, h.mapI, List.map_singleton, hx, List.take_add_one, List.getElem?_eq_getElem hj]
    unfold TR.at_
    rw [List.getD_eq_getElem?_getD, List.getElem?_eq_getElem hj]
    rfl
  · exact Keep.trans h.keep (Keep.trans (Keep.mono k7 (fun b e => .inr (own_low h.rowI e))) (Keep.mono hk8 (fun b e => .inl e)))
theorem CT.growX (h0 : CT W q2 T jI jX AI cI AX cX RJ XJ wr) (hk : Since wr.heap.size wr w5) (x : RX) (hx : x.x = T.exits.getD jX TX.dflt) (hj : jX < T.exits.length) (hf : x.Fits w5) (o : Obj) {g cap : Nat}
    (hown : w7.ownsRow W.heap.size 83 3 (.slice (some ⟨g, 0, none⟩) (jX + 1) cap) (jX + 1) (Go.Proofs.YtnbpgipbfejllaaDoor.rowX XJ ++ x.cells)) (hgr : (w5.alloc o).grownBy w7 (Value.slice AX jX cX).ownBlock) :
    w7.heap[q2]? = some (.cells #[.int .i64 T.pf, .int .i64 T.pl, .slice AI jI cI, .slice AX jX cX] 31 (0, 0)) ∧ CT W q2 T jI (jX + 1) AI cI (some ⟨g, 0, none⟩) cap RJ (XJ ++ [x]) (w7.setCell ⟨q2, 3, none⟩ (.slice (some ⟨g, 0, none⟩) (jX + 1) cap)) := by
  have h := h0.later hk
  have k7 : Keep (fun b => (Value.slice AX jX cX).ownBlock = some b) w5 w7 := Keep.trans (Keep.mono ((Keep.refl (fun _ => False) w5).alloc' o) (fun _ e => e.elim)) (own_keep' hgr)
  have hq7 := (k7.block q2 (blk_lt h.blk) (fun e => blk_own_ne h.blk h.rowX e (by decide) rfl)).trans h.blk
  have hk8 := keep_set (Keep.refl (fun b => b = q2) w7) 3 (.slice (some ⟨g, 0, none⟩) (jX + 1) cap)
  have n8 : ∀ (t : TypeId), 31 ≠ t → ∀ g cur, w7.heap[g]? = some (.cells cur t (0, 0)) → ¬ g = q2 := fun t ht g cur hg e => by subst e; rw [hq7] at hg; injection hg with hg; injection hg with _ hg; exact ht hg
  have n7 : ∀ (t : TypeId), t ≠ 83 → ∀ g cur, w5.heap[g]? = some (.cells cur t (0, 0)) → ¬ (Value.slice AX jX cX).ownBlock = some g := fun t ht g cur hg e => blk_own_ne hg h.rowX e ht rfl
  have fX : ∀ r : RX, r.Fits w5 → r.Fits (w7.setCell ⟨q2, 3, none⟩ (.slice (some ⟨g, 0, none⟩) (jX + 1) cap)) := fun r hr => (hr.keep k7 (n7 _ (by decide)) (n7 _ (by decide))).keep hk8 (n8 _ (by decide)) (n8 _ (by decide))
  refine ⟨hq7, ⟨?_, ?_, ?_, ?_, ?_, h.mapI, ?_, ?_⟩⟩
  · exact (blk_set hq7 3 _).trans (by simp only [List.setIfInBounds_toArray, List.set_cons_zero, List.set_cons_succ])
  · have r7 := k7.own h.rowI (fun k e e2 => by
      rcases h.rowI.2 with ⟨h1, _⟩ | ⟨g', cap', cur', h1, _, hg', _⟩
      · rw [h1] at e; simp [Value.ownBlock] at e
      · rw [h1] at e
        simp [Value.ownBlock] at e
        subst e
        exact blk_own_ne hg' h.rowX e2 (by decide) rfl)
    exact hk8.own r7 (fun k e => blk_own_ne hq7 r7 e (by decide))
  · have h9 := hk8.own hown (fun k e => blk_own_ne hq7 hown e (by decide))
    show World.ownsRow _ _ _ _ _ _ (rowG RX.cells (XJ ++ [x]))
    rw [rowG_append, rowG_one]
    exact h9
  · exact fun r hr => ((h.fitI r hr).keep k7 (n7 _ (by decide)) (n7 _ (by decide))).keep hk8 (n8 _ (by decide)) (n8 _ (by decide))
  · intro r hr
    rcases List.mem_append.1 hr with hr | hr
    · exact fX r (h.fitX r hr)
    · rw [List.mem_singleton.1 hr]; exact fX x hf
  · rw [List.map_append, h.mapX, List.map_singleton, hx, List.take_add_one, List.getElem?_eq_getElem hj]
    rw [List.getD_eq_getElem?_getD, List.getElem?_eq_getElem hj]
    rfl
  · exact Keep.trans h.keep (Keep.trans (Keep.mono k7 (fun b e => .inr (own_low h.rowX e))) (Keep.mono hk8 (fun b e => .inl e)))
/-- The copy that is whole. -/
theorem CT.whole (h : CT W q2 T T.ins.length T.exits.length AI cI AX cX RJ XJ wr) (h1 : T.ins.length ≤ 1000) (h2 : T.exits.length ≤ 1000) : TA wr AI cI AX cX RJ XJ T := by
  have m1 := h.mapI
  have m2 := h.mapX
  rw [List.take_length] at m1 m2
  have e1 : RJ.length = T.ins.length := by rw [← m1, List.length_map]
  have e2 : XJ.length = T.exits.length := by rw [← m2, List.length_map]
  exact ⟨by rw [e1]; exact Lies.own h.rowI (by decide) (by omega), by rw [e2]; exact Lies.own h.rowX (by decide) (by omega), h.fitI, h.fitX, m1, m2, own_zero_off h.rowI, own_zero_off h.rowX⟩
end
theorem Shape.small {T : TR} {P k : Nat} {x : TI} (h : Shape T P k x) (hP : P ≤ 4) : x.args.length ≤ 4 ∧ x.names.length ≤ 2 := by
  cases h with
  | loop _ h1 _ => exact ⟨by dsimp only; omega, by simp⟩
  | shape _ _ _ _ _ => exact ⟨by simp, by simp [xy]⟩
  | new => exact ⟨by simp, by simp [xy]⟩
  | _ => exact ⟨by simp, by simp⟩
end Go.Proofs.YtnbpgipbfejllaaDoor
