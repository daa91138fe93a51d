/- A copy of a trace: the walk. -/
import Derived.Test.YtnbpgipbfejllaaDoorMG41
import Derived.Test.YtnbpgipbfejllaaDoorMK0
import Derived.Laws.ResultCell
import Derived.Test.YtnbpgipbfejllaaDoorMG6
namespace Go.Proofs.YtnbpgipbfejllaaDoor
open Go.RowKit Go.Lib
set_option linter.unusedVariables false
set_option linter.unusedSimpArgs false

theorem EX.info : (Tryd.prog.info? 83).map (fun i => (i.zero, i.size, i.bytes)) = some (some (.agg #[.slice none 0 0, .slice none 0 0, .int .i64 0]), 3, 56) := by kernel_rfl
theorem cell_ltb {w : World} {p : Addr} {v : Value} (h : w.cell? p = some v) : p.block < w.heap.size := by
  unfold World.cell? at h
  cases hb : w.heap[p.block]? with
  | none => simp [hb] at h
  | some o => exact blk_lt hb
section
variable {w w' : World} {A : Option Addr} {ca : Nat} {E : Option Addr} {ce : Nat} {R : List RI} {X : List RX} {T : TR}
theorem TA.keepq {F : Nat → Prop} (h : TA w A ca E ce R X T) (hk : Keep F w w') (hn : ∀ g cur t, t ≠ 31 → w.heap[g]? = some (.cells cur t (0, 0)) → ¬ F g) : TA w' A ca E ce R X T :=
  ⟨h.lieR.keep hk (fun g cur hg => hn g cur _ (by decide) hg), h.lieX.keep hk (fun g cur hg => hn g cur _ (by decide) hg), fun r hr => (h.fitR r hr).keep hk (fun g cur hg => hn g cur _ (by decide) hg) (fun g cur hg => hn g cur _ (by decide) hg), fun r hr => (h.fitX r hr).keep hk (fun g cur hg => hn g cur _ (by decide) hg) (fun g cur hg => hn g cur _ (by decide) hg), h.ins, h.exits, h.offA, h.offE⟩
set_option maxRecDepth 100000 in
set_option maxHeartbeats 16000000 in
theorem copy_any {P : Nat} (h : TA w A ca E ce R X T) (hr : RightT P T) : Calls Tryd.prog 43 #[trV A ca E ce T] w fun e w' => ∃ A' ca' E' ce' R' X', e = .returned (trV A' ca' E' ce' T) ∧ TA w' A' ca' E' ce' R' X' T ∧ (∀ a, A' = some a → w.heap.size ≤ a.block) ∧ Since w.heap.size w w' := by
  have HR := Lib.hid hr
  have hfew := hr.few
  have hxf := Nat.le_trans hr.good.few hr.few
  obtain ⟨i1, hi, hz0, hz1, hz2⟩ := info_parts TI.info
  have HI := Lib.hid hi
  have HZ0 := Lib.hid hz0
  have HZ1 := Lib.hid hz1
  have HZ2 := Lib.hid hz2
  clear hi hz0 hz1 hz2
  obtain ⟨i2, hi, hz0, hz1, hz2⟩ := info_parts EX.info
  have XI := Lib.hid hi
  have XZ0 := Lib.hid hz0
  have XZ1 := Lib.hid hz1
  have XZ2 := Lib.hid hz2
  clear hi hz0 hz1 hz2
  obtain ⟨N, hN⟩ : ∃ N, T.ins.length = N := ⟨_, rfl⟩
  obtain ⟨M, hM⟩ : ∃ M, T.exits.length = M := ⟨_, rfl⟩
  have HN := Lib.hid hN
  have HMM := Lib.hid hM
  have HT0 := Lib.hid h
  unfold trV
  rw [hN] at hfew
  rw [hM] at hxf
  rw [hN, hM]
  clear h hr hN hM
  have HK := Lib.hid ((((Keep.refl (fun _ => False) w).alloc' (.cells #[.int .i64 T.pf, .int .i64 T.pl, .slice A N ca, .slice E M ce] 31)).alloc' (.cells #[.int .i64 0, .int .i64 0, .slice none 0 0, .slice none 0 0] 31)).alloc' (.cells #[.int .i64 T.pf, .int .i64 T.pl, .slice none 0 0, .slice none 0 0] 31))
  have HB0 := Lib.hid (show (((w.alloc (.cells #[.int .i64 T.pf, .int .i64 T.pl, .slice A N ca, .slice E M ce] 31)).alloc (.cells #[.int .i64 0, .int .i64 0, .slice none 0 0, .slice none 0 0] 31)).alloc (.cells #[.int .i64 T.pf, .int .i64 T.pl, .slice none 0 0, .slice none 0 0] 31)).heap[w.heap.size]? = some (.cells #[.int .i64 T.pf, .int .i64 T.pl, .slice A N ca, .slice E M ce] 31 (0, 0)) from alloc_old' (alloc_old' (heap_alloc_new w _)))
  have HB1 := Lib.hid (show (((w.alloc (.cells #[.int .i64 T.pf, .int .i64 T.pl, .slice A N ca, .slice E M ce] 31)).alloc (.cells #[.int .i64 0, .int .i64 0, .slice none 0 0, .slice none 0 0] 31)).alloc (.cells #[.int .i64 T.pf, .int .i64 T.pl, .slice none 0 0, .slice none 0 0] 31)).heap[w.heap.size + 1]? = some (.cells #[.int .i64 0, .int .i64 0, .slice none 0 0, .slice none 0 0] 31 (0, 0)) from alloc_old' (by simpa using heap_alloc_new (w.alloc (.cells #[.int .i64 T.pf, .int .i64 T.pl, .slice A N ca, .slice E M ce] 31)) (.cells #[.int .i64 0, .int .i64 0, .slice none 0 0, .slice none 0 0] 31)))
  have HB2 := Lib.hid (show (((w.alloc (.cells #[.int .i64 T.pf, .int .i64 T.pl, .slice A N ca, .slice E M ce] 31)).alloc (.cells #[.int .i64 0, .int .i64 0, .slice none 0 0, .slice none 0 0] 31)).alloc (.cells #[.int .i64 T.pf, .int .i64 T.pl, .slice none 0 0, .slice none 0 0] 31)).heap[w.heap.size + 1 + 1]? = some (.cells #[.int .i64 T.pf, .int .i64 T.pl, .slice none 0 0, .slice none 0 0] 31 (0, 0)) from by simpa using heap_alloc_new ((w.alloc (.cells #[.int .i64 T.pf, .int .i64 T.pl, .slice A N ca, .slice E M ce] 31)).alloc (.cells #[.int .i64 0, .int .i64 0, .slice none 0 0, .slice none 0 0] 31)) (.cells #[.int .i64 T.pf, .int .i64 T.pl, .slice none 0 0, .slice none 0 0] 31))
  go_enter Tryd.func43, Tryd.ntmps43
  go_upto_region 2 with (fail)
  obtain ⟨W, hW⟩ : ∃ W : World, (((w.alloc (.cells #[.int .i64 T.pf, .int .i64 T.pl, .slice A N ca, .slice E M ce] 31)).alloc (.cells #[.int .i64 0, .int .i64 0, .slice none 0 0, .slice none 0 0] 31)).alloc (.cells #[.int .i64 T.pf, .int .i64 T.pl, .slice none 0 0, .slice none 0 0] 31)) = W := ⟨_, rfl⟩
  obtain ⟨q, hq⟩ : ∃ q, w.heap.size = q := ⟨_, rfl⟩
  have HSZ := Lib.hid (show W.heap.size = q + 1 + 1 + 1 by rw [← hW, ← hq]; simp)
  rw [hW] at HK HB0 HB1 HB2
  rw [hq] at HB0 HB1 HB2
  rw [hW, hq]
  have HQ := Lib.hid hq
  clear hW hq
  have HT := Lib.hid (HT0.out.quiet HK.out)
  go_wp2_with fail
  go_loopw [4] (fun i wr => ∃ k : Nat, k ≤ N ∧ i = .int .i64 (k : Int) ∧ ∃ (AI : Option Addr) (cI : Nat) (RJ : List RI), Hid (CT W (q + 1 + 1) T k 0 AI cI none 0 RJ [] wr)) (fun i _ => N + 1 - (RowKit.intOf i).toNat)
  case atStart =>
    refine ⟨0, Nat.zero_le _, rfl, none, 0, [], Lib.hid ⟨HB2.out, World.ownsRow_nil _ _ _ _, World.ownsRow_nil _ _ _ _, by simp, by simp, by simp, by simp, Keep.refl _ _⟩⟩
  case round =>
    obtain ⟨k, hk, rfl, AI, cI, RJ, VV⟩ := hrel
    obtain ⟨wo, rfl⟩ : ∃ wo : World, wo = wr := ⟨_, rfl⟩
    have hb0 := (VV.out.keep.block q (by rw [HSZ.out]; omega) (by rw [HSZ.out]; omega)).trans HB0.out
    have c0 := (blk_cell hb0 2).trans rfl
    have HTo := Lib.hid (HT.out.keepq VV.out.keep (fun g cur t ht hg e => by
      rcases e with e | e
      · subst e; rw [HB2.out] at hg; injection hg with hg; injection hg with _ hg; exact ht hg.symm
      · have := blk_lt hg; omega))
    by_cases hlt : k < N
    · have hb1 : decide (k < N) = true := by simpa using hlt
      have hkl : k < T.ins.length := by rw [HN.out]; exact hlt
      have HKL := Lib.hid hkl
      have hkI : (k : Int) < (N : Int) := by omega
      have hsm := (HR.out.good.shape k hkl).1.small HR.out.p1.2
      obtain ⟨g, rfl, ⟨cur, hcur⟩, _⟩ := HT.out.cellsI hkl
      have HGL := Lib.hid (blk_lt hcur)
      obtain ⟨g', eg', _, hx, hm, hc⟩ := HTo.out.cellsI hkl
      obtain rfl : g = g' := by
        have := Option.some.inj eg'
        injection this with a
      clear hcur eg'
      have hft := HTo.out.fitR _ hm
      obtain ⟨r, hrr⟩ : ∃ r, R.getD k RI.dflt = r := ⟨_, rfl⟩
      rw [hrr] at hx hc hft
      rw [← hx] at hsm
      obtain ⟨⟨op, a, b, c, nn, args, kk, kn, ks, names, pf, pl, ex, once⟩, A2, ca2, N2, cn2⟩ := r
      dsimp only at hsm
      have HX := Lib.hid hx
      have z0 : wo.cell? ⟨g, k * 14, none⟩ = some (.int .i64 op) := (hc 0 (by omega)).trans rfl
      have z1 : wo.cell? ⟨g, k * 14 + 1, none⟩ = some (.int .i64 a) := (hc 1 (by omega)).trans rfl
      have z2 : wo.cell? ⟨g, k * 14 + 2, none⟩ = some (.int .i64 b) := (hc 2 (by omega)).trans rfl
      have z3 : wo.cell? ⟨g, k * 14 + 3, none⟩ = some (.int .i64 c) := (hc 3 (by omega)).trans rfl
      have z4 : wo.cell? ⟨g, k * 14 + 4, none⟩ = some (.int .i64 nn) := (hc 4 (by omega)).trans rfl
      have z5 : wo.cell? ⟨g, k * 14 + 5, none⟩ = some (.slice A2 args.length ca2) := (hc 5 (by omega)).trans rfl
      have z6 : wo.cell? ⟨g, k * 14 + 6, none⟩ = some (.int .i64 kk) := (hc 6 (by omega)).trans rfl
      have z7 : wo.cell? ⟨g, k * 14 + 7, none⟩ = some (.int .i64 kn) := (hc 7 (by omega)).trans rfl
      have z8 : wo.cell? ⟨g, k * 14 + 8, none⟩ = some (.string (sb ks)) := (hc 8 (by omega)).trans rfl
      have z9 : wo.cell? ⟨g, k * 14 + 9, none⟩ = some (.slice N2 names.length cn2) := (hc 9 (by omega)).trans rfl
      have z10 : wo.cell? ⟨g, k * 14 + 10, none⟩ = some (.int .i64 pf) := (hc 10 (by omega)).trans rfl
      have z11 : wo.cell? ⟨g, k * 14 + 11, none⟩ = some (.int .i64 pl) := (hc 11 (by omega)).trans rfl
      have z12 : wo.cell? ⟨g, k * 14 + 12, none⟩ = some (.int .i64 ex) := (hc 12 (by omega)).trans rfl
      have z13 : wo.cell? ⟨g, k * 14 + 13, none⟩ = some (.bool once) := (hc 13 (by omega)).trans rfl
      have HCI := Lib.hid (show ∀ V, Keep (fun _ => False) wo V → Calls Tryd.prog 62 #[.agg #[.int .i64 op, .int .i64 a, .int .i64 b, .int .i64 c, .int .i64 nn, .slice A2 args.length ca2, .int .i64 kk, .int .i64 kn, .string (sb ks), .slice N2 names.length cn2, .int .i64 pf, .int .i64 pl, .int .i64 ex, .bool once]] V (fun e w' => ∃ A9 ca9 N9 cn9, e = .returned (.agg #[.int .i64 op, .int .i64 a, .int .i64 b, .int .i64 c, .int .i64 nn, .slice A9 args.length ca9, .int .i64 kk, .int .i64 kn, .string (sb ks), .slice N9 names.length cn9, .int .i64 pf, .int .i64 pl, .int .i64 ex, .bool once]) ∧ RI.Fits w' ⟨⟨op, a, b, c, nn, args, kk, kn, ks, names, pf, pl, ex, once⟩, A9, ca9, N9, cn9⟩ ∧ Since V.heap.size V w') from fun V hV => copyins_any ⟨⟨op, a, b, c, nn, args, kk, kn, ks, names, pf, pl, ex, once⟩, A2, ca2, N2, cn2⟩ (RI.Fits.keep hft hV (fun _ _ _ => id) (fun _ _ _ => id)) (by dsimp only; omega) (by dsimp only; omega))
      have HBQ := Lib.hid hb0
      have HFQ := Lib.hid (show ¬ (fun b => (Value.slice AI k cI).ownBlock = some b ∨ wo.heap.size ≤ b) q from fun e => e.elim (fun e => blk_own_ne hb0 VV.out.rowI e (by decide) rfl) (fun e => by have := blk_lt hb0; omega))
      have HFQ2 := Lib.hid (show ¬ (fun b => (Value.slice AI k cI).ownBlock = some b ∨ wo.heap.size ≤ b) (q + 1 + 1) from fun e => e.elim (fun e => blk_own_ne VV.out.blk VV.out.rowI e (by decide) rfl) (fun e => by have := blk_lt VV.out.blk; omega))
      have HFG := Lib.hid (show ¬ (fun b => (Value.slice AI k cI).ownBlock = some b ∨ wo.heap.size ≤ b) g from fun e => e.elim (fun e => by have := own_low VV.out.rowI e; have := HGL.out; omega) (fun e => by have := cell_ltb z0; dsimp only at this; omega))
      clear hrr hm hc hx hft hb0
      go_upto_region 5 with (fail)
      refine wp_region_drewU (S := (fun w' => Hid (Keep (fun b => (Value.slice AI k cI).ownBlock = some b ∨ wo.heap.size ≤ b) wo w'))) (D := [10, 11]) (by kernel_rfl) (by exact Lib.hid (keep_draw _ _)) (fun hH => ?_)
      refine wpAnyU_take (i := 0) (v := ?_) rfl (by kernel_rfl) (by kernel_rfl) (by kernel_rfl) (by kernel_rfl) (fun _ _ _ h => h) (Or.inl ⟨by rfl, ?_⟩) hH ?_
      rotate_left
      · (intro w'' hSw; (try dsimp only at hSw); go_simp; try with_reducible rfl)
      change wpAnyU _ _ _ _ _ _ _ _ (Act.put _ (some 16) _) _
      try (simp only [Act.put, List.setIfInBounds_toArray]; dsimp only [List.set_cons_zero, List.set_cons_succ])
      refine wpAnyU_take (i := 1) (v := ?_) rfl (by kernel_rfl) (by kernel_rfl) (by kernel_rfl) (by kernel_rfl) (fun _ _ _ h => h) (Or.inl ⟨by rfl, ?_⟩) hH ?_
      rotate_left
      · (intro w'' hSw; (have f0 := (blk_cell ((hSw.out.block _ (blk_lt VV.out.blk) HFQ2.out).trans VV.out.blk) 2).trans rfl); go_simp; try with_reducible rfl)
      change wpAnyU _ _ _ _ _ _ _ _ (Act.put _ (some 17) _) _
      try (simp only [Act.put, List.setIfInBounds_toArray]; dsimp only [List.set_cons_zero, List.set_cons_succ])
      refine wpAnyU_take (i := 2) (v := ?_) rfl (by kernel_rfl) (by kernel_rfl) (by kernel_rfl) (by kernel_rfl) (fun _ _ _ h => h) (Or.inl ⟨by rfl, ?_⟩) hH ?_
      rotate_left
      · (intro w'' hSw; (try dsimp only at hSw); go_simp; try with_reducible rfl)
      change wpAnyU _ _ _ _ _ _ _ _ (Act.put _ (some 18) _) _
      try (simp only [Act.put, List.setIfInBounds_toArray]; dsimp only [List.set_cons_zero, List.set_cons_succ])
      refine wpAnyU_take (i := 3) (v := ?_) rfl (by kernel_rfl) (by kernel_rfl) (by kernel_rfl) (by kernel_rfl) (fun _ _ _ h => h) (Or.inl ⟨by rfl, ?_⟩) hH ?_
      rotate_left
      · (intro w'' hSw; (have f1 := (blk_cell ((hSw.out.block _ (blk_lt HBQ.out) HFQ.out).trans HBQ.out) 2).trans rfl); go_simp; try with_reducible rfl)
      change wpAnyU _ _ _ _ _ _ _ _ (Act.put _ (some 19) _) _
      try (simp only [Act.put, List.setIfInBounds_toArray]; dsimp only [List.set_cons_zero, List.set_cons_succ])
      refine wpAnyU_take (i := 4) (v := ?_) rfl (by kernel_rfl) (by kernel_rfl) (by kernel_rfl) (by kernel_rfl) (fun _ _ _ h => h) (Or.inl ⟨by rfl, ?_⟩) hH ?_
      rotate_left
      · (intro w'' hSw; (try dsimp only at hSw); go_simp; try with_reducible rfl)
      change wpAnyU _ _ _ _ _ _ _ _ (Act.put _ (some 20) _) _
      try (simp only [Act.put, List.setIfInBounds_toArray]; dsimp only [List.set_cons_zero, List.set_cons_succ])
      refine wpAnyU_take (i := 5) (v := ?_) rfl (by kernel_rfl) (by kernel_rfl) (by kernel_rfl) (by kernel_rfl) (fun _ _ _ h => h) (Or.inl ⟨by rfl, ?_⟩) hH ?_
      rotate_left
      · (intro w'' hSw; (try dsimp only at hSw); go_simp; try with_reducible rfl)
      change wpAnyU _ _ _ _ _ _ _ _ (Act.put _ (some 21) _) _
      try (simp only [Act.put, List.setIfInBounds_toArray]; dsimp only [List.set_cons_zero, List.set_cons_succ])
      refine wpAnyU_take (i := 6) (v := ?_) rfl (by kernel_rfl) (by kernel_rfl) (by kernel_rfl) (by kernel_rfl) (fun _ _ _ h => h) (Or.inl ⟨by rfl, ?_⟩) hH ?_
      rotate_left
      · (intro w'' hSw; (have f0 := (hSw.out.cell (cell_ltb z0) HFG.out).trans z0; have f1 := (hSw.out.cell (cell_ltb z1) HFG.out).trans z1; have f2 := (hSw.out.cell (cell_ltb z2) HFG.out).trans z2; have f3 := (hSw.out.cell (cell_ltb z3) HFG.out).trans z3; have f4 := (hSw.out.cell (cell_ltb z4) HFG.out).trans z4; have f5 := (hSw.out.cell (cell_ltb z5) HFG.out).trans z5; have f6 := (hSw.out.cell (cell_ltb z6) HFG.out).trans z6; have f7 := (hSw.out.cell (cell_ltb z7) HFG.out).trans z7; have f8 := (hSw.out.cell (cell_ltb z8) HFG.out).trans z8; have f9 := (hSw.out.cell (cell_ltb z9) HFG.out).trans z9; have f10 := (hSw.out.cell (cell_ltb z10) HFG.out).trans z10; have f11 := (hSw.out.cell (cell_ltb z11) HFG.out).trans z11; have f12 := (hSw.out.cell (cell_ltb z12) HFG.out).trans z12; have f13 := (hSw.out.cell (cell_ltb z13) HFG.out).trans z13); go_simp; try with_reducible rfl)
      change wpAnyU _ _ _ _ _ _ _ _ (Act.put _ (some 22) _) _
      try (simp only [Act.put, List.setIfInBounds_toArray]; dsimp only [List.set_cons_zero, List.set_cons_succ])
      refine wpAnyU_ready (rs := [7]) (by kernel_rfl) (by simp) ?_
      refine AllReadyU.cons rfl (fun Kn hKn => ?_) AllReadyU.nil
      go_simp
      go_at_call 62
      (with_reducible refine (HCI.out _ (keep_draw _ _)).mono ?_)
      rintro ee we ⟨A9, ca9, N9, cn9, rfl, hfe, hke⟩
      have HKE := Lib.hid hke
      have HFE := Lib.hid hfe
      have HKD := Lib.hid (show Since wo.heap.size wo we from Keep.trans (keep_draw _ wo) hke)
      clear hke hfe
      refine hKn.out _ _ ?_ (fun hH => ?_)
      · (exact Lib.hid (Keep.trans hH.out (Keep.mono HKE.out (fun b e => .inr e))))
      clear hKn Kn
      try (simp only [Act.put, List.setIfInBounds_toArray]; dsimp only [List.set_cons_zero, List.set_cons_succ])
      refine wpAnyU_ready (rs := [8]) (by kernel_rfl) (by simp) ?_
      refine AllReadyU.cons rfl (fun Kn hKn => ?_) AllReadyU.nil
      go_simp
      refine hKn.out _ _ ?_ (fun hH => ?_)
      · (exact Lib.hid (Keep.trans hH.out (Keep.mono ((Keep.refl (fun _ => False) _).alloc' _) (fun _ e => e.elim))))
      clear hKn Kn
      try (simp only [Act.put, List.setIfInBounds_toArray]; dsimp only [List.set_cons_zero, List.set_cons_succ])
      refine wpAnyU_ready (rs := [9]) (by kernel_rfl) (by simp) ?_
      refine AllReadyU.cons rfl (fun Kn hKn => ?_) AllReadyU.nil
      have HROW := Lib.hid ((VV.out.later HKD.out).rowI)
      have HX14 := Lib.hid (show ∀ u ∈ RI.cells ⟨⟨op, a, b, c, nn, args, kk, kn, ks, names, pf, pl, ex, once⟩, A9, ca9, N9, cn9⟩, u.oneCell' = true from by intro u hu; unfold RI.cells at hu; simp only [List.mem_cons, List.not_mem_nil, or_false] at hu; rcases hu with rfl | rfl | rfl | rfl | rfl | rfl | rfl | rfl | rfl | rfl | rfl | rfl | rfl | rfl <;> rfl)
      rw [if_pos (show Region.wanted _ _ = true from rfl)]
      refine wp_append_lies _ (.tmp 17) (.tmp 24) 28 rfl W.heap.size 60 i1 _ 14 152 Tryd.underlying28 HI.out HZ0.out HZ1.out HZ2.out rfl (by decide) (.slice AI k cI) k (rowI RJ) rfl (HROW.out.alloc _) ⟨_, 0, none⟩ 1 1 (RI.cells ⟨⟨op, a, b, c, nn, args, kk, kn, ks, names, pf, pl, ex, once⟩, A9, ca9, N9, cn9⟩) rfl rfl (by exact World.news_of_block (heap_alloc_new _ _)) (by exact HX14.out) (by omega) (by unfold maxLen; omega) (by omega) (by have h1 := VV.out.keep.size; have h2 := HKD.out.size; simp; omega) _ rfl ?_
      intro g8 cap8 w9 hown hgrow hat hlt8
      obtain ⟨hblk7, hnext⟩ := VV.out.growI HKD.out ⟨⟨op, a, b, c, nn, args, kk, kn, ks, names, pf, pl, ex, once⟩, A9, ca9, N9, cn9⟩ HX.out HKL.out HFE.out _ hown hgrow
      have HNX := Lib.hid hnext
      have HB7 := Lib.hid hblk7
      have HKA := Lib.hid (own_keep' hgrow)
      clear hown hgrow hat hlt8 hblk7 hnext
      refine hKn.out _ _ ?_ (fun hH => ?_)
      · (exact Lib.hid (Keep.trans hH.out (Keep.mono HKA.out (fun b e => .inl e))))
      clear hKn Kn
      try (simp only [Act.put, List.setIfInBounds_toArray]; dsimp only [List.set_cons_zero, List.set_cons_succ])
      refine wpAnyU_pure (i := 10) (v := ?_) rfl (by kernel_rfl) (by kernel_rfl) (by kernel_rfl) (by rfl) (fun _ _ _ h => h) (Or.inl ⟨by rfl, ?_⟩) ?_
      rotate_left
      · (intro w'' _; go_simp; try with_reducible rfl)
      change wpAnyU _ _ _ _ _ _ _ _ (Act.put _ (some 26) _) _
      try (simp only [Act.put, List.setIfInBounds_toArray]; dsimp only [List.set_cons_zero, List.set_cons_succ])
      refine wpAnyU_ready (rs := [11]) (by kernel_rfl) (by simp) ?_
      refine AllReadyU.last rfl (by rfl) (fun Kn hKn => ?_) AllReadyU.nil
      go_simp
      have q0 := (blk_cell HB7.out 2).trans rfl
      have f0 := blk_free HB7.out 2
      go_simp
      refine hKn.out _ _ ?_
      clear hKn Kn
      try (simp only [Act.put, List.setIfInBounds_toArray]; dsimp only [List.set_cons_zero, List.set_cons_succ])
      refine wpAnyU_done (by kernel_rfl) ?_ _
      go_wp2_with fail
      exact ⟨⟨k + 1, by omega, by go_num, _, _, _, HNX⟩, by simp [RowKit.intOf]; omega⟩
    · have hb1 : decide (k < N) = false := by simpa using hlt
      obtain rfl : k = N := by omega
      clear hb0 HTo
      go_wp2_with fail
      clear c0
      go_loopw [5] (fun i wr => ∃ j : Nat, j ≤ M ∧ i = .int .i64 (j : Int) ∧ ∃ (AX : Option Addr) (cX : Nat) (XJ : List RX), Hid (CT W (q + 1 + 1) T k j AI cI AX cX RJ XJ wr)) (fun i _ => M + 1 - (RowKit.intOf i).toNat)
      case atStart => exact ⟨0, Nat.zero_le _, rfl, none, 0, [], VV⟩
      case round =>
        obtain ⟨j, hj, rfl, AX, cX, XJ, VX⟩ := hrel
        obtain ⟨wo, rfl⟩ : ∃ wo : World, wo = wr := ⟨_, rfl⟩
        have hb0 := (VX.out.keep.block q (by rw [HSZ.out]; omega) (by rw [HSZ.out]; omega)).trans HB0.out
        have c0 := (blk_cell hb0 3).trans rfl
        by_cases hlj : j < M
        · have hb2 : decide (j < M) = true := by simpa using hlj
          have hjl : j < T.exits.length := by rw [HMM.out]; exact hlj
          have HJL := Lib.hid hjl
          have hjI : (j : Int) < (M : Int) := by omega
          have HTo := Lib.hid (HT.out.keepq VX.out.keep (fun g cur t ht hg e => by
            rcases e with e | e
            · subst e; rw [HB2.out] at hg; injection hg with hg; injection hg with _ hg; exact ht hg.symm
            · have := blk_lt hg; omega))
          obtain ⟨gx, rfl, _, _, hc0⟩ := HT.out.cellsX (k := j) hjl
          have HGL := Lib.hid (show gx < W.heap.size from cell_ltb (hc0 0 (by omega)))
          obtain ⟨g', eg', hxx, hxm, hxc⟩ := HTo.out.cellsX (k := j) hjl
          obtain rfl : gx = g' := by
            have := Option.some.inj eg'
            injection this with a
          clear hc0 eg'
          have hes := HR.out.good.exs (T.exits.getD j TX.dflt) (getD_mem hjl)
          obtain ⟨rx, hrx⟩ : ∃ rx, X.getD j RX.dflt = rx := ⟨_, rfl⟩
          rw [hrx] at hxx hxm hxc
          have hrf := HTo.out.fitX _ hxm
          obtain ⟨xx, AF, cF, FF⟩ := rx
          dsimp only at hxx
          rw [← hxx] at hes
          have HXX := Lib.hid hxx
          have z0 : wo.cell? ⟨gx, j * 3, none⟩ = some (.slice AF FF.length cF) := (hxc 0 (by omega)).trans rfl
          have z1 : wo.cell? ⟨gx, j * 3 + 1, none⟩ = some (.slice none 0 0) := (hxc 1 (by omega)).trans rfl
          have z2 : wo.cell? ⟨gx, j * 3 + 2, none⟩ = some (.int .i64 xx.back) := (hxc 2 (by omega)).trans rfl
          have HCX := Lib.hid (show ∀ V, Keep (fun _ => False) wo V → Calls Tryd.prog 63 #[.agg #[.slice AF FF.length cF, .slice none 0 0, .int .i64 xx.back]] V (fun e w' => ∃ A9 c9 F9, e = .returned (.agg #[.slice A9 F9.length c9, .slice none 0 0, .int .i64 xx.back]) ∧ RX.Fits w' ⟨xx, A9, c9, F9⟩ ∧ Since V.heap.size V w') from fun V hV => copyexit_any ⟨xx, AF, cF, FF⟩ (RX.Fits.keep hrf hV (fun _ _ _ => id) (fun _ _ _ => id)) (by
            have h9 := congrArg List.length hrf.2.2
            rw [List.length_map] at h9
            dsimp only at h9 ⊢
            omega) (fun f hf => by
            have h9 := hes.2 f.x (by rw [← hrf.2.2]; exact List.mem_map_of_mem hf)
            omega))
          have HBQ := Lib.hid hb0
          have HFQ := Lib.hid (show ¬ (fun b => (Value.slice AX j cX).ownBlock = some b ∨ wo.heap.size ≤ b) q from fun e => e.elim (fun e => blk_own_ne hb0 VX.out.rowX e (by decide) rfl) (fun e => by have := blk_lt hb0; omega))
          have HFQ2 := Lib.hid (show ¬ (fun b => (Value.slice AX j cX).ownBlock = some b ∨ wo.heap.size ≤ b) (q + 1 + 1) from fun e => e.elim (fun e => blk_own_ne VX.out.blk VX.out.rowX e (by decide) rfl) (fun e => by have := blk_lt VX.out.blk; omega))
          have HFG := Lib.hid (show ¬ (fun b => (Value.slice AX j cX).ownBlock = some b ∨ wo.heap.size ≤ b) gx from fun e => e.elim (fun e => by have := own_low VX.out.rowX e; have := HGL.out; omega) (fun e => by have := cell_ltb z0; dsimp only at this; omega))
          clear hrx hxm hxc hxx hrf hb0 hes
          go_upto_region 9 with (fail)
          refine wp_region_drewU (S := (fun w' => Hid (Keep (fun b => (Value.slice AX j cX).ownBlock = some b ∨ wo.heap.size ≤ b) wo w'))) (D := [10, 11]) (by kernel_rfl) (by exact Lib.hid (keep_draw _ _)) (fun hH => ?_)
          refine wpAnyU_take (i := 0) (v := ?_) rfl (by kernel_rfl) (by kernel_rfl) (by kernel_rfl) (by kernel_rfl) (fun _ _ _ h => h) (Or.inl ⟨by rfl, ?_⟩) hH ?_
          rotate_left
          · (intro w'' hSw; (try dsimp only at hSw); go_simp; try with_reducible rfl)
          change wpAnyU _ _ _ _ _ _ _ _ (Act.put _ (some 34) _) _
          try (simp only [Act.put, List.setIfInBounds_toArray]; dsimp only [List.set_cons_zero, List.set_cons_succ])
          refine wpAnyU_take (i := 1) (v := ?_) rfl (by kernel_rfl) (by kernel_rfl) (by kernel_rfl) (by kernel_rfl) (fun _ _ _ h => h) (Or.inl ⟨by rfl, ?_⟩) hH ?_
          rotate_left
          · (intro w'' hSw; (have f0 := (blk_cell ((hSw.out.block _ (blk_lt VX.out.blk) HFQ2.out).trans VX.out.blk) 3).trans rfl); go_simp; try with_reducible rfl)
          change wpAnyU _ _ _ _ _ _ _ _ (Act.put _ (some 35) _) _
          try (simp only [Act.put, List.setIfInBounds_toArray]; dsimp only [List.set_cons_zero, List.set_cons_succ])
          refine wpAnyU_take (i := 2) (v := ?_) rfl (by kernel_rfl) (by kernel_rfl) (by kernel_rfl) (by kernel_rfl) (fun _ _ _ h => h) (Or.inl ⟨by rfl, ?_⟩) hH ?_
          rotate_left
          · (intro w'' hSw; (try dsimp only at hSw); go_simp; try with_reducible rfl)
          change wpAnyU _ _ _ _ _ _ _ _ (Act.put _ (some 36) _) _
          try (simp only [Act.put, List.setIfInBounds_toArray]; dsimp only [List.set_cons_zero, List.set_cons_succ])
          refine wpAnyU_take (i := 3) (v := ?_) rfl (by kernel_rfl) (by kernel_rfl) (by kernel_rfl) (by kernel_rfl) (fun _ _ _ h => h) (Or.inl ⟨by rfl, ?_⟩) hH ?_
          rotate_left
          · (intro w'' hSw; (have f1 := (blk_cell ((hSw.out.block _ (blk_lt HBQ.out) HFQ.out).trans HBQ.out) 3).trans rfl); go_simp; try with_reducible rfl)
          change wpAnyU _ _ _ _ _ _ _ _ (Act.put _ (some 37) _) _
          try (simp only [Act.put, List.setIfInBounds_toArray]; dsimp only [List.set_cons_zero, List.set_cons_succ])
          refine wpAnyU_take (i := 4) (v := ?_) rfl (by kernel_rfl) (by kernel_rfl) (by kernel_rfl) (by kernel_rfl) (fun _ _ _ h => h) (Or.inl ⟨by rfl, ?_⟩) hH ?_
          rotate_left
          · (intro w'' hSw; (try dsimp only at hSw); go_simp; try with_reducible rfl)
          change wpAnyU _ _ _ _ _ _ _ _ (Act.put _ (some 38) _) _
          try (simp only [Act.put, List.setIfInBounds_toArray]; dsimp only [List.set_cons_zero, List.set_cons_succ])
          refine wpAnyU_take (i := 5) (v := ?_) rfl (by kernel_rfl) (by kernel_rfl) (by kernel_rfl) (by kernel_rfl) (fun _ _ _ h => h) (Or.inl ⟨by rfl, ?_⟩) hH ?_
          rotate_left
          · (intro w'' hSw; (try dsimp only at hSw); go_simp; try with_reducible rfl)
          change wpAnyU _ _ _ _ _ _ _ _ (Act.put _ (some 39) _) _
          try (simp only [Act.put, List.setIfInBounds_toArray]; dsimp only [List.set_cons_zero, List.set_cons_succ])
          refine wpAnyU_take (i := 6) (v := ?_) rfl (by kernel_rfl) (by kernel_rfl) (by kernel_rfl) (by kernel_rfl) (fun _ _ _ h => h) (Or.inl ⟨by rfl, ?_⟩) hH ?_
          rotate_left
          · (intro w'' hSw; (have f0 := (hSw.out.cell (cell_ltb z0) HFG.out).trans z0; have f1 := (hSw.out.cell (cell_ltb z1) HFG.out).trans z1; have f2 := (hSw.out.cell (cell_ltb z2) HFG.out).trans z2); go_simp; try with_reducible rfl)
          change wpAnyU _ _ _ _ _ _ _ _ (Act.put _ (some 40) _) _
          try (simp only [Act.put, List.setIfInBounds_toArray]; dsimp only [List.set_cons_zero, List.set_cons_succ])
          refine wpAnyU_ready (rs := [7]) (by kernel_rfl) (by simp) ?_
          refine AllReadyU.cons rfl (fun Kn hKn => ?_) AllReadyU.nil
          go_simp
          go_at_call 63
          (with_reducible refine (HCX.out _ (keep_draw _ _)).mono ?_)
          rintro ee we ⟨A9, c9, F9, rfl, hfe, hke⟩
          have HKE := Lib.hid hke
          have HFE := Lib.hid hfe
          have HKD := Lib.hid (show Since wo.heap.size wo we from Keep.trans (keep_draw _ wo) hke)
          clear hke hfe
          refine hKn.out _ _ ?_ (fun hH => ?_)
          · (exact Lib.hid (Keep.trans hH.out (Keep.mono HKE.out (fun b e => .inr e))))
          clear hKn Kn
          try (simp only [Act.put, List.setIfInBounds_toArray]; dsimp only [List.set_cons_zero, List.set_cons_succ])
          refine wpAnyU_ready (rs := [8]) (by kernel_rfl) (by simp) ?_
          refine AllReadyU.cons rfl (fun Kn hKn => ?_) AllReadyU.nil
          go_simp
          refine hKn.out _ _ ?_ (fun hH => ?_)
          · (exact Lib.hid (Keep.trans hH.out (Keep.mono ((Keep.refl (fun _ => False) _).alloc' _) (fun _ e => e.elim))))
          clear hKn Kn
          try (simp only [Act.put, List.setIfInBounds_toArray]; dsimp only [List.set_cons_zero, List.set_cons_succ])
          refine wpAnyU_ready (rs := [9]) (by kernel_rfl) (by simp) ?_
          refine AllReadyU.cons rfl (fun Kn hKn => ?_) AllReadyU.nil
          have HROW := Lib.hid ((VX.out.later HKD.out).rowX)
          rw [if_pos (show Region.wanted _ _ = true from rfl)]
          refine wp_append_lies _ (.tmp 35) (.tmp 42) 29 rfl W.heap.size 83 i2 _ 3 56 Tryd.underlying29 XI.out XZ0.out XZ1.out XZ2.out rfl (by decide) (.slice AX j cX) j (rowX XJ) rfl (HROW.out.alloc _) ⟨_, 0, none⟩ 1 1 _ rfl rfl (by exact World.news_of_block (heap_alloc_new _ _)) (by intro y hy; simp only [List.mem_cons, List.not_mem_nil, or_false] at hy; rcases hy with rfl | rfl | rfl <;> rfl) (by omega) (by unfold maxLen; omega) (by omega) (by have h1 := VX.out.keep.size; have h2 := HKD.out.size; simp; omega) _ rfl ?_
          intro g8 cap8 w9 hown hgrow hat hlt8
          obtain ⟨hblk7, hnext⟩ := VX.out.growX HKD.out ⟨xx, A9, c9, F9⟩ HXX.out HJL.out HFE.out _ hown hgrow
          have HNX := Lib.hid hnext
          have HB7 := Lib.hid hblk7
          have HKA := Lib.hid (own_keep' hgrow)
          clear hown hgrow hat hlt8 hblk7 hnext
          refine hKn.out _ _ ?_ (fun hH => ?_)
          · (exact Lib.hid (Keep.trans hH.out (Keep.mono HKA.out (fun b e => .inl e))))
          clear hKn Kn
          try (simp only [Act.put, List.setIfInBounds_toArray]; dsimp only [List.set_cons_zero, List.set_cons_succ])
          refine wpAnyU_pure (i := 10) (v := ?_) rfl (by kernel_rfl) (by kernel_rfl) (by kernel_rfl) (by rfl) (fun _ _ _ h => h) (Or.inl ⟨by rfl, ?_⟩) ?_
          rotate_left
          · (intro w'' _; go_simp; try with_reducible rfl)
          change wpAnyU _ _ _ _ _ _ _ _ (Act.put _ (some 44) _) _
          try (simp only [Act.put, List.setIfInBounds_toArray]; dsimp only [List.set_cons_zero, List.set_cons_succ])
          refine wpAnyU_ready (rs := [11]) (by kernel_rfl) (by simp) ?_
          refine AllReadyU.last rfl (by rfl) (fun Kn hKn => ?_) AllReadyU.nil
          go_simp
          have q0 := (blk_cell HB7.out 3).trans rfl
          have f0 := blk_free HB7.out 3
          go_simp
          refine hKn.out _ _ ?_
          clear hKn Kn
          try (simp only [Act.put, List.setIfInBounds_toArray]; dsimp only [List.set_cons_zero, List.set_cons_succ])
          refine wpAnyU_done (by kernel_rfl) ?_ _
          go_wp2_with fail
          exact ⟨⟨j + 1, by omega, by go_num, _, _, _, HNX⟩, by simp [RowKit.intOf]; omega⟩
        · have hb2 : decide (j < M) = false := by simpa using hlj
          obtain rfl : j = M := by omega
          have hB1 := (VX.out.keep.block (q + 1) (by rw [HSZ.out]; omega) (by rw [HSZ.out]; omega)).trans HB1.out
          have s0 := (blk_cell VX.out.blk 0).trans rfl
          have s1 := (blk_cell VX.out.blk 1).trans rfl
          have s2 := (blk_cell VX.out.blk 2).trans rfl
          have s3 := (blk_cell VX.out.blk 3).trans rfl
          have d0 := (blk_cell hB1 0).trans rfl
          have d1 := (blk_cell hB1 1).trans rfl
          have d2 := (blk_cell hB1 2).trans rfl
          have d3 := (blk_cell hB1 3).trans rfl
          have e0 := blk_free hB1 0
          have e1 := blk_free hB1 1
          have e2 := blk_free hB1 2
          have e3 := blk_free hB1 3
          have HB1' := Lib.hid hB1
          clear hB1 hb0
          go_wp2_with fail
          have hfin := blk_set (blk_set (blk_set (blk_set HB1'.out 0 (.int .i64 T.pf)) 1 (.int .i64 T.pl)) 2 (.slice AI k cI)) 3 (.slice AX j cX)
          simp only [List.setIfInBounds_toArray, List.set_cons_zero, List.set_cons_succ] at hfin
          have hk9 := keep_set (keep_set (keep_set (keep_set (Keep.refl (fun b => b = q + 1) wo) 0 (.int .i64 T.pf)) 1 (.int .i64 T.pl)) 2 (.slice AI k cI)) 3 (.slice AX j cX)
          refine bodyPost_ret (results_cell_row rfl _ _ (q + 1) _ _ _ _ rfl hfin Tryd.underlying31 rfl (by kernel_rfl)) rfl ?_
          have hta : TA wo AI cI AX cX RJ XJ T := by
            have h9 := VX.out
            rw [← HN.out, ← HMM.out] at h9
            exact h9.whole (by have := HN.out; omega) (by have := HMM.out; omega)
          refine ⟨AI, cI, AX, cX, RJ, XJ, rfl, hta.keepq hk9 (fun g cur t ht hg e => by subst e; rw [HB1'.out] at hg; injection hg with hg; injection hg with _ hg; exact ht hg.symm), fun a ha => (by have h1 := own_low VX.out.rowI (k := a.block) (by rw [ha]; rfl); have h2 := HQ.out; have h3 := HSZ.out; omega), ?_⟩
          exact Keep.trans (Since.of HK.out) (Keep.trans (Keep.mono VX.out.keep (fun k e => by have := HQ.out; have := HSZ.out; omega)) (Keep.mono hk9 (fun k e => by have := HQ.out; omega)))
end
end Go.Proofs.YtnbpgipbfejllaaDoor
/- A trace in which an instruction is done once. -/
namespace Go.Proofs.YtnbpgipbfejllaaDoor
open Go.RowKit Go.Lib
set_option linter.unusedVariables false
set_option linter.unusedSimpArgs false

def TI.setOnce (x : TI) : TI := { x with once := true }
def TR.setOnce (T : TR) (k : Nat) : TR := { T with ins := T.ins.set k (T.at_ k).setOnce }
section
variable {T : TR} {P k : Nat}
theorem once_at (j : Nat) (hk : k < T.ins.length) : (T.setOnce k).at_ j = if j = k then (T.at_ k).setOnce else T.at_ j := by
  unfold TR.at_ TR.setOnce
  dsimp only
  rw [List.getD_eq_getElem?_getD, List.getElem?_set]
  by_cases h : k = j
  · subst h
    simp [hk, TR.at_]
  · rw [if_neg h, if_neg (fun e => h e.symm), List.getD_eq_getElem?_getD]
theorem once_op (j : Nat) (hk : k < T.ins.length) : ((T.setOnce k).at_ j).op = (T.at_ j).op := by
  rw [once_at j hk]
  split
  · next h => rw [h]; rfl
  · rfl
theorem once_ex (j : Nat) (hk : k < T.ins.length) : ((T.setOnce k).at_ j).ex = (T.at_ j).ex := by
  rw [once_at j hk]
  split
  · next h => rw [h]; rfl
  · rfl
theorem once_ext (j : Nat) (hk : k < T.ins.length) : (T.setOnce k).ext j = T.ext j := by
  unfold TR.ext
  rw [once_ex j hk]
  rfl
theorem once_len : (T.setOnce k).ins.length = T.ins.length := by simp [TR.setOnce]
theorem once_vb (hk : k < T.ins.length) {j : Nat} {v : Int} (h : VB T j v) : VB (T.setOnce k) j v := by
  obtain ⟨u, rfl, hu, ho⟩ := h
  exact ⟨u, rfl, hu, by have := once_op u hk; unfold TR.at_ at this; rw [this]; exact ho⟩
theorem Shape.setOnce {x : TI} {j : Nat} (h : Shape T P j x) (hr : repeatsOp x.op = true) : Shape T P j x.setOnce := by
  cases h with
  | param => exact absurd (show (false : Bool) = true from hr) (by decide)
  | const _ _ _ _ a => exact .const _ _ _ _ a
  | unary _ _ _ _ a b c => exact .unary _ _ _ _ a b c
  | binary _ _ _ _ _ a b c d => exact .binary _ _ _ _ _ a b c d
  | guard _ _ _ _ a b c => exact .guard _ _ _ _ a b c
  | kind _ _ _ _ a b c => exact .kind _ _ _ _ a b c
  | shape _ _ _ a b => exact .shape _ _ _ a b
  | arr _ _ _ a b => exact .arr _ _ _ a b
  | bounds _ _ _ _ a b c => exact .bounds _ _ _ _ a b c
  | load _ _ _ a b => exact .load _ _ _ a b
  | store => exact absurd (show (false : Bool) = true from hr) (by decide)
  | at_ _ _ _ a b => exact .at_ _ _ _ a b
  | put => exact absurd (show (false : Bool) = true from hr) (by decide)
  | len _ _ a => exact .len _ _ a
  | bytes => exact absurd (show (false : Bool) = true from hr) (by decide)
  | new => exact absurd (show (false : Bool) = true from hr) (by decide)
  | fuel => exact absurd (show (false : Bool) = true from hr) (by decide)
  | print => exact absurd (show (false : Bool) = true from hr) (by decide)
  | loop => exact absurd (show (false : Bool) = true from hr) (by decide)
  | fin => exact absurd (show (false : Bool) = true from hr) (by decide)
theorem RightT.setOnce (h : RightT P T) (hk : k < T.ins.length) (hr : repeatsOp (T.at_ k).op = true) : RightT P (T.setOnce k) := by
  refine ⟨⟨h.good.place, by rw [once_len]; exact h.good.few, fun j hj => ?_, fun j hj h0 => ?_, fun i j hij hj h1 h2 => ?_, h.good.exs⟩, h.p1, by rw [once_len]; exact h.par, by rw [once_len]; exact h.few, fun j hj => ?_⟩
  · rw [once_len] at hj
    refine ⟨?_, fun hp => by rw [once_op j hk]; exact (h.good.shape j hj).2 hp⟩
    rw [once_at j hk]
    split
    · next e =>
      subst e
      exact ((h.good.shape j hj).1.setOnce hr).mono (fun v hv => once_vb hk hv)
    · exact (h.good.shape j hj).1.mono (fun v hv => once_vb hk hv)
  · rw [once_len] at hj
    rw [once_ex j hk] at h0 ⊢
    rw [once_ext j hk]
    have h9 := h.good.exit j hj h0
    refine ⟨h9.1, h9.2.many, h9.2.back, fun f hf => ?_⟩
    have h8 := h9.2.each f hf
    exact ⟨h8.1, h8.2.1, h8.2.2.1, fun v hv => (h8.2.2.2 v hv).elim .inl (fun e => .inr (once_vb hk e))⟩
  · rw [once_len] at hj
    rw [once_ex i hk] at h1 ⊢
    rw [once_ex j hk] at h2 ⊢
    exact h.good.inc i j hij hj h1 h2
  · rw [once_len] at hj ⊢
    rw [once_op j hk]
    exact h.last j hj
end
section
variable {w w' : World} {A : Option Addr} {ca : Nat} {E : Option Addr} {ce : Nat} {R : List RI} {X : List RX} {T : TR} {k : Nat}
/-- The row behind the store. -/
theorem rowI_once (R : List RI) (k : Nat) (hk : k < R.length) : (rowI R).set (k * 14 + 13) (.bool true) = rowI (R.set k { R.getD k RI.dflt with x := (R.getD k RI.dflt).x.setOnce }) := by
  induction R generalizing k with
  | nil => simp at hk
  | cons r R ih =>
    cases k with
    | zero =>
      show (r.cells ++ rowG RI.cells R).set _ _ = _ ++ rowG RI.cells R
      rw [List.set_append_left _ _ (by show 0 * 14 + 13 < 14; decide)]
      rfl
    | succ k =>
      show (r.cells ++ rowG RI.cells R).set _ _ = r.cells ++ rowG RI.cells _
      rw [List.set_append_right _ _ (by show 14 ≤ (k + 1) * 14 + 13; omega)]
      have e : (k + 1) * 14 + 13 - r.cells.length = k * 14 + 13 := by show (k + 1) * 14 + 13 - 14 = _; omega
      rw [e, ih k (by simpa using hk)]
      rfl
theorem TA.setOnce (h : TA w A ca E ce R X T) (hk : k < T.ins.length) {g : Nat} (hA : A = some ⟨g, 0, none⟩) : TA (w.setCell ⟨g, k * 14 + 13, none⟩ (.bool true)) A ca E ce (R.set k { R.getD k RI.dflt with x := (R.getD k RI.dflt).x.setOnce }) X (T.setOnce k) := by
  subst hA
  have hRl : R.length = T.ins.length := h.lenR
  have hkR : k < R.length := by omega
  obtain ⟨g', e', ⟨cur, hcur⟩, hx, hm, hc⟩ := h.cellsI hk
  obtain rfl : g = g' := by
    have := Option.some.inj e'
    injection this with a
  have hkk := keep_set (Keep.refl (fun b => b = g) w) (k * 14 + 13) (.bool true)
  have hno : ∀ (t : TypeId), 60 ≠ t → ∀ g' cur', w.heap[g']? = some (.cells cur' t (0, 0)) → ¬ g' = g := fun t ht g' cur' hg e => by
    subst e
    rw [hcur] at hg
    injection hg with hg
    injection hg with _ hg
    exact ht hg
  have hb := blk_set hcur (k * 14 + 13) (.bool true)
  refine ⟨⟨⟨?_, ?_, fun h0 => ⟨g, 0, rfl, blk_lt hb, fun j hj => ?_⟩⟩, fun _ => ⟨g, 0, _, rfl, hb⟩⟩, h.lieX.keep hkk (hno _ (by decide)), ?_, fun r hr => (h.fitX r hr).keep hkk (hno _ (by decide)) (hno _ (by decide)), ?_, h.exits, h.offA, h.offE⟩
  · rw [← rowI_once R k hkR, List.length_set, List.length_set, h.lieR.1.1]
  · rw [List.length_set]; exact h.lieR.1.2.1
  · rw [List.length_set] at hj
    obtain ⟨g2, o2, e2, _, hc2⟩ := h.lieR.1.2.2 (by omega)
    obtain ⟨rfl, rfl⟩ : g = g2 ∧ 0 = o2 := by
      have := Option.some.inj e2
      injection this with a b
      exact ⟨a, b⟩
    rw [← rowI_once R k hkR, List.getElem?_set]
    have h9 := hc2 j hj
    rw [Nat.zero_add] at h9 ⊢
    rw [blk_cell hb, Array.getElem?_setIfInBounds]
    rw [blk_cell hcur] at h9
    have hlt : j < cur.size := by
      rcases Nat.lt_or_ge j cur.size with h8 | h8
      · exact h8
      · rw [Array.getElem?_eq_none h8] at h9
        have : j < (rowI R).length := by rw [h.lieR.1.1]; exact hj
        rw [List.getElem?_eq_getElem this] at h9
        cases h9
    by_cases e : k * 14 + 13 = j
    · rw [if_pos e, if_pos e, if_pos (by omega), if_pos (by rw [h.lieR.1.1]; omega)]
    · rw [if_neg e, if_neg e]
      exact h9
  · intro r hr
    rcases List.mem_or_eq_of_mem_set hr with hr | rfl
    · exact (h.fitR r hr).keep hkk (hno _ (by decide)) (hno _ (by decide))
    · exact RI.Fits.keep (r := { R.getD k RI.dflt with x := (R.getD k RI.dflt).x.setOnce }) (show RI.Fits w _ from h.fitR (R.getD k RI.dflt) hm) hkk (hno _ (by decide)) (hno _ (by decide))
  · rw [List.map_set, h.ins]
    show _ = T.ins.set k (T.at_ k).setOnce
    rw [← hx]
end
end Go.Proofs.YtnbpgipbfejllaaDoor
