/- facsimileref04: a cell that numbers determine: the walk. -/
import Derived.Test.YtbbeoeoengogpaaU2
namespace Go.Proofs.Ytbbeoeoengogpaa
open Go.RowKit
set_option linter.unusedVariables false

theorem app_keep {w w' : World} {r : Option Nat} {o : Obj} (h : (w.alloc o).grownBy w' r) : Keep (fun i => r = some i) w w' := ((Keep.refl _ w).alloc _).grown h (fun k e => .inl e)
theorem run_cut3 (W : World) (A : Option Addr) (N : Nat) (h : N ≤ 3) : (Instr.sliceAt 51 (.slice A 3 3) none (some (.int .i64 (N : Int))) none).run Try.prog W = .ok (.slice A N 3) W := by
  have h1 : (0 : Int) ≤ N := by omega
  have h2 : (N : Int) ≤ 3 := by omega
  go_simp
theorem own_keep {w w' : World} {r : Option Nat} (h : w.grownBy w' r) : Keep (fun i => r = some i) w w' := (Keep.refl _ w).grown h (fun k e => .inl e)
theorem none_no {i : Nat} (h : (Value.slice none 0 0).ownBlock = some i) : False := by simp [Value.ownBlock] at h
theorem names_one (N : Nat) : ∀ u ∈ ([Value.string ⟨#[120]⟩, .string ⟨#[121]⟩, .string ⟨#[110, 101, 120, 116]⟩] : List Value).take N, u.oneCell' = true := by
  intro u hu
  have := List.mem_of_mem_take hu
  simp at this
  rcases this with rfl | rfl | rfl <;> rfl
set_option maxRecDepth 100000 in
set_option maxHeartbeats 8000000 in
theorem cell_any {n0 p : Nat} {w : World} (h : NU n0 w p) (n : Int) (hn : 0 ≤ n ∧ n ≤ 1000000) :
    Calls Try.prog 32 #[.pointer (some ⟨p, 0, none⟩), .int .i64 n] w fun e w' => CellOut n0 w p e w' := by
  have H := Lib.hid h
  have hpl := h.lt
  have hnp := h.base
  clear h
  go_enter Try.func32, Try.ntmps32
  go_wp2_with fail
  have hka := (Keep.refl (fun _ => False) w).alloc' (.cells #[.int .i64 0, .int .i64 0, .int .i64 0, .int .i64 0, .slice none 0 0, .slice none 0 0] 54)
  have hres := heap_alloc_new w (.cells #[.int .i64 0, .int .i64 0, .int .i64 0, .int .i64 0, .slice none 0 0, .slice none 0 0] 54)
  have hN0 := H.out.keep hka id (fun _ => False.elim)
  obtain ⟨B, hB⟩ : ∃ B, w.heap.size = B := ⟨_, rfl⟩
  obtain ⟨W0, hW⟩ : ∃ W0, w.alloc (.cells #[.int .i64 0, .int .i64 0, .int .i64 0, .int .i64 0, .slice none 0 0, .slice none 0 0] 54) = W0 := ⟨_, rfl⟩
  rw [hW] at hka hN0
  rw [hW, hB] at hres
  rw [hW, hB]
  clear hW
  have hBp : B ≠ p := by omega
  ((with_reducible refine (next_any hN0 4 (by omega)).mono ?_); rintro e w1 ⟨r, rfl, hr, hN1, hk1⟩)
  have R1 := Lib.hid (And.intro ((hk1.block B (blk_lt hres) hBp).trans hres) (Keep.trans (Keep.mono hka (F' := fun i => i = p) (fun _ => False.elim)) hk1))
  have N1 := Lib.hid hN1
  have LO := Lib.hid (show n0 ≤ w.heap.size by omega)
  have BN := Lib.hid hB
  clear hka hres hN0 hk1 hN1 hB hpl
  go_wp2_with fail
  ((with_reducible refine (next_any N1.out 2 (by omega)).mono ?_); rintro e w2 ⟨tn, rfl, ht, hN2, hk2⟩)
  have R2 := Lib.hid (And.intro ((hk2.block B (blk_lt R1.out.1) hBp).trans R1.out.1) (Keep.trans R1.out.2 hk2))
  have hlt := R2.out.2.size
  have hpl := hN2.lt
  have hBl := blk_lt R2.out.1
  obtain ⟨kd, hkd⟩ : ∃ kd : Int, 1 + r = kd := ⟨_, rfl⟩
  have hk4 : 1 ≤ kd ∧ kd ≤ 4 := by omega
  have V0 := Lib.hid (show CB n0 w p B w2.heap.size kd 0 0 tn (.slice none 0 0) (.slice none 0 0) 0 (w2.alloc (.cells #[.int .i64 kd, .int .i64 0, .int .i64 0, .int .i64 tn, .slice none 0 0, .slice none 0 0] 54)) from
    ⟨hN2.keep ((Keep.refl (fun _ => False) w2).alloc' _) id (fun _ => False.elim), (((Keep.refl (fun _ => False) w2).alloc' _).block B hBl id).trans R2.out.1, heap_alloc_new _ _, ⟨[], World.ownsRow_nil _ _ _ _, ItemCells.nil _⟩,
      Keep.trans R2.out.2 (Keep.mono ((Keep.refl (fun _ => False) w2).alloc' _) (fun _ => False.elim)), ⟨hBp, by omega, by omega⟩, ⟨by have := BN.out; omega, hlt⟩, LO.out, ⟨_, _, _, rfl⟩⟩)
  clear hN2 hk2 R2 hlt hpl hBl N1 R1
  go_wp2_with fail
  obtain ⟨C, hC⟩ : ∃ C, w2.heap.size = C := ⟨_, rfl⟩
  obtain ⟨W3, hW⟩ : ∃ W3, w2.alloc (.cells #[.int .i64 kd, .int .i64 0, .int .i64 0, .int .i64 tn, .slice none 0 0, .slice none 0 0] 54) = W3 := ⟨_, rfl⟩
  rw [hC, hW] at V0
  rw [hC, hW]
  clear hC hW hr hkd
  obtain ⟨i0, hi, hz0, hz1, hz2⟩ := info_parts (show (Try.prog.info? 75).map (fun i => (i.zero, i.size, i.bytes)) = some (some (.agg #[.int .i64 0, .int .i64 0, .string ⟨#[]⟩]), 3, 32) by kernel_rfl)
  have HI := Lib.hid hi
  have HZ0 := Lib.hid hz0
  have HZ1 := Lib.hid hz1
  have HZ2 := Lib.hid hz2
  clear hi hz0 hz1 hz2
  ((with_reducible refine (next_any V0.out.nu 2 (by omega)).mono ?_); rintro e w4 ⟨r, rfl, hr, hN4, hk4'⟩)
  have V1 := Lib.hid (V0.out.next hN4 hk4')
  clear hN4 hk4' V0
  obtain ⟨c0, c1, c2, c3, c4, c5, hfz⟩ := V1.out.cells
  have f0 := hfz 0
  clear hfz
  rcases (show r = 0 ∨ r = 1 by omega) with rfl | rfl
  · have hkS := keep_set (Keep.refl (fun i => i = C) w4) 0 (.int .i64 1)
    have V1s := Lib.hid (V1.out.turn (kd' := 1) hkS (blk_set V1.out.blk 0 (.int .i64 1)) ⟨_, _, _, rfl⟩)
    go_wp2_with fail
    obtain ⟨w4s, hw4⟩ : ∃ w4s, w4.setCell ⟨C, 0, none⟩ (.int .i64 1) = w4s := ⟨_, rfl⟩
    rw [hw4] at V1s
    rw [hw4]
    clear hw4 hkS
    ((with_reducible refine (next_any V1s.out.nu 4 (by omega)).mono ?_); rintro e w5 ⟨rn, rfl, hrn, hN5, hk5⟩)
    have V2 := Lib.hid (V1s.out.next hN5 hk5)
    clear hN5 hk5 V1 V1s c0 c1 c2 c3 c4 c5 f0
    obtain ⟨c0, _⟩ := V2.out.cells
    obtain ⟨N, rfl⟩ := Int.eq_ofNat_of_zero_le hrn.1
    have hN3 : N ≤ 3 := by omega
    go_wp2_with fail
    clear c0
    go_loopw [7] (fun i wr => ∃ k : Nat, k ≤ N ∧ i = .int .i64 (k : Int) ∧ ∃ (A : Option Addr) (c : Nat), Hid (CB n0 w p B C 1 0 0 tn (.slice none 0 0) (.slice A k c) k wr)) (fun i _ => N + 1 - (intOf i).toNat)
    case atStart => exact ⟨0, Nat.zero_le _, rfl, _, _, V2⟩
    case round =>
      obtain ⟨k, hk, rfl, A, c, VV⟩ := hrel
      obtain ⟨wo, rfl⟩ : ∃ wo : World, wo = wr := ⟨_, rfl⟩
      clear V2
      by_cases hlt : k < N
      · have hb : decide (k < N) = true := by simpa using hlt
        have VX := Lib.hid (VV.out.quiet (keep_draw _ wo))
        have d5 := VV.out.cells.2.2.2.2.2.1
        have hk3 : k < 3 := by omega
        have hkN := hlt
        clear hlt
        go_wp2_with fail
        go_region_law (first
              | (go_simp; go_at_call 46; refine (value_any VX.out.nu n hn).mono ?_; rintro e wv ⟨a, b, s, rfl, hab, hN, hk⟩; replace VX := Lib.hid (VX.out.next hN hk); have d5 := VX.out.cells.2.2.2.2.2.1; have d6 := fun o => cell_kept ((Keep.refl (fun _ => False) wv).alloc' o) d5 id; have HAB := Lib.hid hab; clear hab hN hk)
              | (obtain ⟨cs, hcs, hic⟩ := VX.out.own; refine step_append_lies _ rfl (.tmp 29) (.tmp 33) 52 rfl w.heap.size 75 i0 _ 3 32 Try.underlying52 HI.out HZ0.out HZ1.out HZ2.out rfl (by decide) (.slice A k c) k cs rfl (by exact hcs.alloc _) ⟨_, 0, none⟩ 1 1 _ rfl rfl (by exact World.news_of_block (heap_alloc_new _ _)) (by simp [Value.oneCell']) (by omega) (by unfold maxLen; omega) (by omega) (by have := VX.out.keep.size; simp; omega) _ rfl ?_; intro g cap w1 hown hgrow hat hlt; have hkw := app_keep hgrow; have VY := Lib.hid (VX.out.grow _ _ _ HAB.out hcs hic hown hkw); have f5 := blk_free ((hkw.block C (blk_lt VX.out.blk) (fun e => (VX.out.own_ne _ e).2.1 rfl)).trans VX.out.blk) 5; have d5 := cell_kept hkw (VX.out.cells.2.2.2.2.2.1) (fun e => (VX.out.own_ne _ e).2.1 rfl); clear hown hgrow hat hlt hkw hcs hic))
        all_goals go_wp2_with fail
        all_goals exact ⟨⟨k + 1, by omega, by go_num, _, _, VY⟩, by simp [intOf]; omega⟩
      · have hkN : k = N := by omega
        rw [hkN] at VV
        have hb : decide (k < N) = false := by simpa using hlt
        clear hlt
        obtain ⟨d0, d1, d2, d3, d4, d5, hfz⟩ := VV.out.cells
        have f1 := hfz 1
        have f2 := hfz 2
        clear hfz
        go_wp2_with fail
        ((with_reducible refine (next_any VV.out.nu 3 (by omega)).mono ?_); rintro e wa ⟨rc, rfl, hrc, hNa, hka⟩)
        have VA := Lib.hid (VV.out.next hNa hka)
        have q1 := VA.out.cells.2.1
        have f1 := VA.out.cells.2.2.2.2.2.2 1
        clear hNa hka d0 d1 d2 d3 d4 d5 f2
        go_wp2_with fail
        have VB1 := Lib.hid (VA.out.turn (cl' := rc) (keep_set (Keep.refl (fun i => i = C) wa) 1 (.int .i64 rc)) (blk_set VA.out.blk 1 (.int .i64 rc)) ⟨_, _, _, rfl⟩)
        obtain ⟨we, hwe⟩ : ∃ we, wa.setCell ⟨C, 1, none⟩ (.int .i64 rc) = we := ⟨_, rfl⟩
        rw [hwe] at VB1
        rw [hwe]
        clear hwe q1 f1
        have d4 := VB1.out.cells.2.2.2.2.1
        have d6 := fun o => cell_kept ((Keep.refl (fun _ => False) we).alloc' o) d4 id
        have d7 := fun o => cell_kept ((keep_draw (fun _ => False) we).alloc' o) d4 id
        have hct := fun W A => run_cut3 W A N hN3
        go_region_law (refine step_append_src rfl 51 9 (.string ⟨#[]⟩) 16 w.heap.size Try.strs (.tmp 44) (.tmp 47) rfl (.slice none 0 0) 0 [] rfl (World.ownsRow_nil _ _ _ _) _ N 3 ([.string ⟨#[120]⟩, .string ⟨#[121]⟩, .string ⟨#[110, 101, 120, 116]⟩].take N) rfl (by intro h; cases h) (by exact (cells_new _ [.string ⟨#[120]⟩, .string ⟨#[121]⟩, .string ⟨#[110, 101, 120, 116]⟩] 9).take N hN3) (names_one N) (by omega) (by decide) (by have := VB1.out.keep.size; simp; omega) ?_; intro A' c' w1 hown hgrow hob; have hkw := Keep.mono (own_keep hgrow) (F' := fun _ => False) (fun i e => none_no e); have VQ := Lib.hid (VB1.out.quiet (by first | exact Keep.trans ((keep_draw _ we).alloc' _) hkw | exact Keep.trans (Keep.trans ((Keep.refl _ we).alloc' _) (keep_draw _ _)) hkw)); have d4 := VQ.out.cells.2.2.2.2.1; have f4 := VQ.out.cells.2.2.2.2.2.2 4; clear hown hgrow hob hkw)
        all_goals (
          have VE := Lib.hid (VQ.out.turn (sn' := .slice A' N c') (keep_set (Keep.refl (fun i => i = C) w1) 4 (.slice A' N c')) (blk_set VQ.out.blk 4 (.slice A' N c')) ⟨_, _, _, rfl⟩)
          obtain ⟨wf, hwf⟩ : ∃ wf, w1.setCell ⟨C, 4, none⟩ (.slice A' N c') = wf := ⟨_, rfl⟩
          rw [hwf] at VE
          rw [hwf]
          clear hwf d4 d6 d7 f4 hct
          obtain ⟨d0, d1, d2, d3, d4, d5, _⟩ := VE.out.cells
          obtain ⟨b0, b1, b2, b3, b4, b5, bz⟩ := VE.out.rescells
          have g0 := bz 0
          have g1 := bz 1
          have g2 := bz 2
          have g3 := bz 3
          have g4 := bz 4
          have g5 := bz 5
          clear bz
          go_wp2_with fail
          exact cb_ret VE.out (by omega) _ rfl)
  · go_wp2_with fail
    ((with_reducible refine (next_any V1.out.nu 4 (by omega)).mono ?_); rintro e w5 ⟨rn, rfl, hrn, hN5, hk5⟩)
    have V2 := Lib.hid (V1.out.next hN5 hk5)
    clear hN5 hk5 V1 c0 c1 c2 c3 c4 c5 f0
    obtain ⟨c0, _⟩ := V2.out.cells
    obtain ⟨N, rfl⟩ := Int.eq_ofNat_of_zero_le hrn.1
    have hN3 : N ≤ 3 := by omega
    rcases (show kd = 1 ∨ kd = 2 ∨ kd = 3 ∨ kd = 4 by omega) with rfl | rfl | rfl | rfl
    · go_wp2_with fail
      clear c0
      go_loopw [7] (fun i wr => ∃ k : Nat, k ≤ N ∧ i = .int .i64 (k : Int) ∧ ∃ (A : Option Addr) (c : Nat), Hid (CB n0 w p B C 1 0 0 tn (.slice none 0 0) (.slice A k c) k wr)) (fun i _ => N + 1 - (intOf i).toNat)
      case atStart => exact ⟨0, Nat.zero_le _, rfl, _, _, V2⟩
      case round =>
        obtain ⟨k, hk, rfl, A, c, VV⟩ := hrel
        obtain ⟨wo, rfl⟩ : ∃ wo : World, wo = wr := ⟨_, rfl⟩
        clear V2
        by_cases hlt : k < N
        · have hb : decide (k < N) = true := by simpa using hlt
          have VX := Lib.hid (VV.out.quiet (keep_draw _ wo))
          have d5 := VV.out.cells.2.2.2.2.2.1
          have hk3 : k < 3 := by omega
          have hkN := hlt
          clear hlt
          go_wp2_with fail
          go_region_law (first
                | (go_simp; go_at_call 46; refine (value_any VX.out.nu n hn).mono ?_; rintro e wv ⟨a, b, s, rfl, hab, hN, hk⟩; replace VX := Lib.hid (VX.out.next hN hk); have d5 := VX.out.cells.2.2.2.2.2.1; have d6 := fun o => cell_kept ((Keep.refl (fun _ => False) wv).alloc' o) d5 id; have HAB := Lib.hid hab; clear hab hN hk)
                | (obtain ⟨cs, hcs, hic⟩ := VX.out.own; refine step_append_lies _ rfl (.tmp 29) (.tmp 33) 52 rfl w.heap.size 75 i0 _ 3 32 Try.underlying52 HI.out HZ0.out HZ1.out HZ2.out rfl (by decide) (.slice A k c) k cs rfl (by exact hcs.alloc _) ⟨_, 0, none⟩ 1 1 _ rfl rfl (by exact World.news_of_block (heap_alloc_new _ _)) (by simp [Value.oneCell']) (by omega) (by unfold maxLen; omega) (by omega) (by have := VX.out.keep.size; simp; omega) _ rfl ?_; intro g cap w1 hown hgrow hat hlt; have hkw := app_keep hgrow; have VY := Lib.hid (VX.out.grow _ _ _ HAB.out hcs hic hown hkw); have f5 := blk_free ((hkw.block C (blk_lt VX.out.blk) (fun e => (VX.out.own_ne _ e).2.1 rfl)).trans VX.out.blk) 5; have d5 := cell_kept hkw (VX.out.cells.2.2.2.2.2.1) (fun e => (VX.out.own_ne _ e).2.1 rfl); clear hown hgrow hat hlt hkw hcs hic))
          all_goals go_wp2_with fail
          all_goals exact ⟨⟨k + 1, by omega, by go_num, _, _, VY⟩, by simp [intOf]; omega⟩
        · have hkN : k = N := by omega
          rw [hkN] at VV
          have hb : decide (k < N) = false := by simpa using hlt
          clear hlt
          obtain ⟨d0, d1, d2, d3, d4, d5, hfz⟩ := VV.out.cells
          have f1 := hfz 1
          have f2 := hfz 2
          clear hfz
          go_wp2_with fail
          ((with_reducible refine (next_any VV.out.nu 3 (by omega)).mono ?_); rintro e wa ⟨rc, rfl, hrc, hNa, hka⟩)
          have VA := Lib.hid (VV.out.next hNa hka)
          have q1 := VA.out.cells.2.1
          have f1 := VA.out.cells.2.2.2.2.2.2 1
          clear hNa hka d0 d1 d2 d3 d4 d5 f2
          go_wp2_with fail
          have VB1 := Lib.hid (VA.out.turn (cl' := rc) (keep_set (Keep.refl (fun i => i = C) wa) 1 (.int .i64 rc)) (blk_set VA.out.blk 1 (.int .i64 rc)) ⟨_, _, _, rfl⟩)
          obtain ⟨we, hwe⟩ : ∃ we, wa.setCell ⟨C, 1, none⟩ (.int .i64 rc) = we := ⟨_, rfl⟩
          rw [hwe] at VB1
          rw [hwe]
          clear hwe q1 f1
          have d4 := VB1.out.cells.2.2.2.2.1
          have d6 := fun o => cell_kept ((Keep.refl (fun _ => False) we).alloc' o) d4 id
          have d7 := fun o => cell_kept ((keep_draw (fun _ => False) we).alloc' o) d4 id
          have hct := fun W A => run_cut3 W A N hN3
          go_region_law (refine step_append_src rfl 51 9 (.string ⟨#[]⟩) 16 w.heap.size Try.strs (.tmp 44) (.tmp 47) rfl (.slice none 0 0) 0 [] rfl (World.ownsRow_nil _ _ _ _) _ N 3 ([.string ⟨#[120]⟩, .string ⟨#[121]⟩, .string ⟨#[110, 101, 120, 116]⟩].take N) rfl (by intro h; cases h) (by exact (cells_new _ [.string ⟨#[120]⟩, .string ⟨#[121]⟩, .string ⟨#[110, 101, 120, 116]⟩] 9).take N hN3) (names_one N) (by omega) (by decide) (by have := VB1.out.keep.size; simp; omega) ?_; intro A' c' w1 hown hgrow hob; have hkw := Keep.mono (own_keep hgrow) (F' := fun _ => False) (fun i e => none_no e); have VQ := Lib.hid (VB1.out.quiet (by first | exact Keep.trans ((keep_draw _ we).alloc' _) hkw | exact Keep.trans (Keep.trans ((Keep.refl _ we).alloc' _) (keep_draw _ _)) hkw)); have d4 := VQ.out.cells.2.2.2.2.1; have f4 := VQ.out.cells.2.2.2.2.2.2 4; clear hown hgrow hob hkw)
          all_goals (
            have VE := Lib.hid (VQ.out.turn (sn' := .slice A' N c') (keep_set (Keep.refl (fun i => i = C) w1) 4 (.slice A' N c')) (blk_set VQ.out.blk 4 (.slice A' N c')) ⟨_, _, _, rfl⟩)
            obtain ⟨wf, hwf⟩ : ∃ wf, w1.setCell ⟨C, 4, none⟩ (.slice A' N c') = wf := ⟨_, rfl⟩
            rw [hwf] at VE
            rw [hwf]
            clear hwf d4 d6 d7 f4 hct
            obtain ⟨d0, d1, d2, d3, d4, d5, _⟩ := VE.out.cells
            obtain ⟨b0, b1, b2, b3, b4, b5, bz⟩ := VE.out.rescells
            have g0 := bz 0
            have g1 := bz 1
            have g2 := bz 2
            have g3 := bz 3
            have g4 := bz 4
            have g5 := bz 5
            clear bz
            go_wp2_with fail
            exact cb_ret VE.out (by omega) _ rfl)
    · go_wp2_with fail
      clear c0
      go_loopw [7] (fun i wr => ∃ k : Nat, k ≤ N ∧ i = .int .i64 (k : Int) ∧ ∃ (A : Option Addr) (c : Nat), Hid (CB n0 w p B C 2 0 0 tn (.slice none 0 0) (.slice A k c) k wr)) (fun i _ => N + 1 - (intOf i).toNat)
      case atStart => exact ⟨0, Nat.zero_le _, rfl, _, _, V2⟩
      case round =>
        obtain ⟨k, hk, rfl, A, c, VV⟩ := hrel
        obtain ⟨wo, rfl⟩ : ∃ wo : World, wo = wr := ⟨_, rfl⟩
        clear V2
        by_cases hlt : k < N
        · have hb : decide (k < N) = true := by simpa using hlt
          have VX := Lib.hid (VV.out.quiet (keep_draw _ wo))
          have d5 := VV.out.cells.2.2.2.2.2.1
          have hk3 : k < 3 := by omega
          have hkN := hlt
          clear hlt
          go_wp2_with fail
          go_region_law (first
                | (go_simp; go_at_call 46; refine (value_any VX.out.nu n hn).mono ?_; rintro e wv ⟨a, b, s, rfl, hab, hN, hk⟩; replace VX := Lib.hid (VX.out.next hN hk); have d5 := VX.out.cells.2.2.2.2.2.1; have d6 := fun o => cell_kept ((Keep.refl (fun _ => False) wv).alloc' o) d5 id; have HAB := Lib.hid hab; clear hab hN hk)
                | (obtain ⟨cs, hcs, hic⟩ := VX.out.own; refine step_append_lies _ rfl (.tmp 29) (.tmp 33) 52 rfl w.heap.size 75 i0 _ 3 32 Try.underlying52 HI.out HZ0.out HZ1.out HZ2.out rfl (by decide) (.slice A k c) k cs rfl (by exact hcs.alloc _) ⟨_, 0, none⟩ 1 1 _ rfl rfl (by exact World.news_of_block (heap_alloc_new _ _)) (by simp [Value.oneCell']) (by omega) (by unfold maxLen; omega) (by omega) (by have := VX.out.keep.size; simp; omega) _ rfl ?_; intro g cap w1 hown hgrow hat hlt; have hkw := app_keep hgrow; have VY := Lib.hid (VX.out.grow _ _ _ HAB.out hcs hic hown hkw); have f5 := blk_free ((hkw.block C (blk_lt VX.out.blk) (fun e => (VX.out.own_ne _ e).2.1 rfl)).trans VX.out.blk) 5; have d5 := cell_kept hkw (VX.out.cells.2.2.2.2.2.1) (fun e => (VX.out.own_ne _ e).2.1 rfl); clear hown hgrow hat hlt hkw hcs hic))
          all_goals go_wp2_with fail
          all_goals exact ⟨⟨k + 1, by omega, by go_num, _, _, VY⟩, by simp [intOf]; omega⟩
        · have hkN : k = N := by omega
          rw [hkN] at VV
          have hb : decide (k < N) = false := by simpa using hlt
          clear hlt
          obtain ⟨d0, d1, d2, d3, d4, d5, hfz⟩ := VV.out.cells
          clear hfz
          obtain ⟨b0, b1, b2, b3, b4, b5, bz⟩ := VV.out.rescells
          have g0 := bz 0
          have g1 := bz 1
          have g2 := bz 2
          have g3 := bz 3
          have g4 := bz 4
          have g5 := bz 5
          clear bz
          go_wp2_with fail
          exact cb_ret VV.out (by omega) _ rfl
    · go_wp2_with fail
      clear c0
      go_loopw [7] (fun i wr => ∃ k : Nat, k ≤ N ∧ i = .int .i64 (k : Int) ∧ ∃ (A : Option Addr) (c : Nat), Hid (CB n0 w p B C 3 0 0 tn (.slice none 0 0) (.slice A k c) k wr)) (fun i _ => N + 1 - (intOf i).toNat)
      case atStart => exact ⟨0, Nat.zero_le _, rfl, _, _, V2⟩
      case round =>
        obtain ⟨k, hk, rfl, A, c, VV⟩ := hrel
        obtain ⟨wo, rfl⟩ : ∃ wo : World, wo = wr := ⟨_, rfl⟩
        clear V2
        by_cases hlt : k < N
        · have hb : decide (k < N) = true := by simpa using hlt
          have VX := Lib.hid (VV.out.quiet (keep_draw _ wo))
          have d5 := VV.out.cells.2.2.2.2.2.1
          have hk3 : k < 3 := by omega
          have hkN := hlt
          clear hlt
          go_wp2_with fail
          go_region_law (first
                | (go_simp; go_at_call 46; refine (value_any VX.out.nu n hn).mono ?_; rintro e wv ⟨a, b, s, rfl, hab, hN, hk⟩; replace VX := Lib.hid (VX.out.next hN hk); have d5 := VX.out.cells.2.2.2.2.2.1; have d6 := fun o => cell_kept ((Keep.refl (fun _ => False) wv).alloc' o) d5 id; have HAB := Lib.hid hab; clear hab hN hk)
                | (obtain ⟨cs, hcs, hic⟩ := VX.out.own; refine step_append_lies _ rfl (.tmp 29) (.tmp 33) 52 rfl w.heap.size 75 i0 _ 3 32 Try.underlying52 HI.out HZ0.out HZ1.out HZ2.out rfl (by decide) (.slice A k c) k cs rfl (by exact hcs.alloc _) ⟨_, 0, none⟩ 1 1 _ rfl rfl (by exact World.news_of_block (heap_alloc_new _ _)) (by simp [Value.oneCell']) (by omega) (by unfold maxLen; omega) (by omega) (by have := VX.out.keep.size; simp; omega) _ rfl ?_; intro g cap w1 hown hgrow hat hlt; have hkw := app_keep hgrow; have VY := Lib.hid (VX.out.grow _ _ _ HAB.out hcs hic hown hkw); have f5 := blk_free ((hkw.block C (blk_lt VX.out.blk) (fun e => (VX.out.own_ne _ e).2.1 rfl)).trans VX.out.blk) 5; have d5 := cell_kept hkw (VX.out.cells.2.2.2.2.2.1) (fun e => (VX.out.own_ne _ e).2.1 rfl); clear hown hgrow hat hlt hkw hcs hic))
          all_goals go_wp2_with fail
          all_goals exact ⟨⟨k + 1, by omega, by go_num, _, _, VY⟩, by simp [intOf]; omega⟩
        · have hkN : k = N := by omega
          rw [hkN] at VV
          have hb : decide (k < N) = false := by simpa using hlt
          clear hlt
          obtain ⟨d0, d1, d2, d3, d4, d5, hfz⟩ := VV.out.cells
          have f1 := hfz 1
          have f2 := hfz 2
          clear hfz
          go_wp2_with fail
          ((with_reducible refine (next_any VV.out.nu 3 (by omega)).mono ?_); rintro e wa ⟨rc, rfl, hrc, hNa, hka⟩)
          have VA := Lib.hid (VV.out.next hNa hka)
          obtain ⟨d0, d1, d2, d3, d4, d5, hfz⟩ := VA.out.cells
          have f1 := hfz 2
          have VE := Lib.hid (VA.out.turn (fn' := rc) (keep_set (Keep.refl (fun i => i = C) wa) 2 (.int .i64 rc)) (blk_set VA.out.blk 2 (.int .i64 rc)) ⟨_, _, _, rfl⟩)
          clear hNa hka hfz f2
          obtain ⟨we, hwe⟩ : ∃ we, wa.setCell ⟨C, 2, none⟩ (.int .i64 rc) = we := ⟨_, rfl⟩
          rw [hwe] at VE
          obtain ⟨d0, d1, d2, d3, d4, d5, _⟩ := VE.out.cells
          obtain ⟨b0, b1, b2, b3, b4, b5, bz⟩ := VE.out.rescells
          have g0 := bz 0
          have g1 := bz 1
          have g2 := bz 2
          have g3 := bz 3
          have g4 := bz 4
          have g5 := bz 5
          clear bz
          go_wp2_with fail
          exact cb_ret VE.out (by omega) _ rfl
    · go_wp2_with fail
      clear c0
      go_loopw [7] (fun i wr => ∃ k : Nat, k ≤ 1 ∧ i = .int .i64 (k : Int) ∧ ∃ (A : Option Addr) (c : Nat), Hid (CB n0 w p B C 4 0 0 tn (.slice none 0 0) (.slice A k c) k wr)) (fun i _ => 1 + 1 - (intOf i).toNat)
      case atStart => exact ⟨0, Nat.zero_le _, rfl, _, _, V2⟩
      case round =>
        obtain ⟨k, hk, rfl, A, c, VV⟩ := hrel
        obtain ⟨wo, rfl⟩ : ∃ wo : World, wo = wr := ⟨_, rfl⟩
        clear V2
        rcases (show k = 0 ∨ k = 1 by omega) with rfl | rfl
        · have hlt : (0 : Nat) < 1 := by decide
          have VX := Lib.hid (VV.out.quiet (keep_draw _ wo))
          have d5 := VV.out.cells.2.2.2.2.2.1
          have hk3 : (0 : Nat) < 3 := by omega
          have hkN := hlt
          clear hlt
          go_wp2_with fail
          go_region_law (first
                | (go_simp; go_at_call 46; refine (value_any VX.out.nu n hn).mono ?_; rintro e wv ⟨a, b, s, rfl, hab, hN, hk⟩; replace VX := Lib.hid (VX.out.next hN hk); have d5 := VX.out.cells.2.2.2.2.2.1; have d6 := fun o => cell_kept ((Keep.refl (fun _ => False) wv).alloc' o) d5 id; have HAB := Lib.hid hab; clear hab hN hk)
                | (obtain ⟨cs, hcs, hic⟩ := VX.out.own; refine step_append_lies _ rfl (.tmp 29) (.tmp 33) 52 rfl w.heap.size 75 i0 _ 3 32 Try.underlying52 HI.out HZ0.out HZ1.out HZ2.out rfl (by decide) (.slice A 0 c) 0 cs rfl (by exact hcs.alloc _) ⟨_, 0, none⟩ 1 1 _ rfl rfl (by exact World.news_of_block (heap_alloc_new _ _)) (by simp [Value.oneCell']) (by omega) (by unfold maxLen; omega) (by omega) (by have := VX.out.keep.size; simp; omega) _ rfl ?_; intro g cap w1 hown hgrow hat hlt; have hkw := app_keep hgrow; have VY := Lib.hid (VX.out.grow _ _ _ HAB.out hcs hic hown hkw); have f5 := blk_free ((hkw.block C (blk_lt VX.out.blk) (fun e => (VX.out.own_ne _ e).2.1 rfl)).trans VX.out.blk) 5; have d5 := cell_kept hkw (VX.out.cells.2.2.2.2.2.1) (fun e => (VX.out.own_ne _ e).2.1 rfl); clear hown hgrow hat hlt hkw hcs hic))
          all_goals go_wp2_with fail
          all_goals exact ⟨⟨1, by omega, by go_num, _, _, VY⟩, by simp [intOf]⟩
        · have hlt : True := trivial
          clear hlt
          obtain ⟨d0, d1, d2, d3, d4, d5, hfz⟩ := VV.out.cells
          clear hfz
          obtain ⟨g, a, b, s, rfl, x0, x1, x2, xz⟩ := VV.out.first
          have y0 := xz 0
          have y1 := xz 1
          have y2 := xz 2
          have VF := Lib.hid VV.out.fix
          obtain ⟨b0, b1, b2, b3, b4, b5, bz⟩ := VV.out.rescells
          have g0 := bz 0
          have g1 := bz 1
          have g2 := bz 2
          have g3 := bz 3
          have g4 := bz 4
          have g5 := bz 5
          obtain ⟨n1, n2, n3⟩ := VV.out.own_ne g rfl
          have n1' := n1.symm
          have n2' := n2.symm
          clear bz xz
          by_cases ha : a = 5
          · subst ha
            go_wp2_with fail
            exact cb_ret VV.out (by omega) _ rfl
          · have hb : (a != 5) = true := by simpa using ha
            go_wp2_with fail
            exact cb_ret VF.out (by omega) _ rfl
end Go.Proofs.Ytbbeoeoengogpaa
