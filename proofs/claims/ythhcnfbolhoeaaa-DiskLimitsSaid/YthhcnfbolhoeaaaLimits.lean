/- DiskLimits: Writes are possible up to 2^24 bytes. -/
import Derived.Test.YthhcnfbolhoeaaaAgain
import Derived.Deep.RegionHeld3
import Derived.IntWalk
namespace Go.Proofs.Ythhcnfbolhoeaaa
open Go.ChangeShapes Go.WideShapes Go.ChangeAt Go.RowKit
set_option linter.unusedVariables false
set_option linter.unusedSimpArgs false

theorem cell_since {n : Nat} {w w' : World} {a : Addr} {v : Value} (h : Since n w w') (hc : w.cell? a = some v) (ha : a.block < n) : w'.cell? a = some v :=
  (h.cell (World.block_lt_of_cell? _ _ hc) (fun h' => by omega)).trans hc
theorem calm_keeps {w w' : World} {r : Rep} {d : DS} (h : IsDisk w r d) (hs : Since w.heap.size w w') : IsDisk w' r d := h.keep hs (fun k hk hk' => Nat.lt_irrefl _ (Nat.lt_of_lt_of_le (h.foot_lt k hk) hk'))

theorem read_over (k : Nat) : readL (List.replicate k 0) 0 ((k : Int) + 1) = List.replicate k 0 := by
  unfold readL
  split
  · rename_i h
    rw [List.length_replicate] at h
    have : k = 0 := by omega
    subst this
    rfl
  · rw [List.length_replicate, show (min ((k : Int) + 1) ((k : Int) - 0)).toNat = k by omega]
    simp
theorem conv_zeros (W W' : World) (k : Nat) (hW : W'.heap = (W.alloc (.cells (madeCells #[.int .u8 0] k) 5)).heap) :
    (convert 56 9 (.slice (some ⟨W.heap.size, 0, none⟩) k k)).run Try.prog W' = .ok (.string (sb (List.replicate k 0))) W' := by
  have h := run_back W' W.heap.size 0 k (List.replicate k 0) (by
    intro j hj
    have hj' : j < k := by simpa using hj
    have hb : W'.heap[W.heap.size]? = some (.cells (madeCells #[.int .u8 0] k) 5 (0, 0)) := by rw [hW]; exact heap_alloc_new _ _
    rw [blk_cell hb, Nat.zero_add]
    have e0 : (madeCells #[.int .u8 0] k).toList = List.replicate k (.int .u8 0) := toList_madeCells_one _ _
    rw [← Array.getElem?_toList, e0]
    simp [hj'])
  rw [List.length_replicate] at h
  exact h
set_option maxHeartbeats 4000000 in
set_option maxRecDepth 100000 in
theorem limits_walk (a b c : Int) (ha : i64In a) (hb : i64In b) (hc : i64In c) (w : World) :
    Calls Try.prog 11 #[.int .i64 a, .int .i64 b, .int .i64 c] w fun e w' => e = .returned (.bool true) ∧ Below w.heap.size w w' := by
  obtain ⟨f, hf⟩ : ∃ f : Nat, a % 7 = f := ⟨(a % 7).toNat, by omega⟩
  obtain ⟨m, hm⟩ : ∃ m : Nat, b % 70 = m := ⟨(b % 70).toNat, by omega⟩
  obtain ⟨k, hk⟩ : ∃ k : Nat, c % 500 = k := ⟨(c % 500).toNat, by omega⟩
  have hf7 : f < 7 := by omega
  have hm70 : m < 70 := by omega
  have hk5 : k < 500 := by omega
  have MF := fun w => Lib.hid (hf ▸ mod_any w a 7 (by decide) (by decide) ha)
  have MM := fun w => Lib.hid (hm ▸ mod_any w b 70 (by decide) (by decide) hb)
  have MK := fun w => Lib.hid (hk ▸ mod_any w c 500 (by decide) (by decide) hc)
  clear ha hb hc hf hm hk
  go_enter Try.func11, Try.ntmps11
  go_wp2_with fail
  refine (sanity_any w).mono ?_
  rintro e w1 ⟨rfl, hs1⟩
  have S1 := Lib.hid hs1; clear hs1
  go_wp2_with fail
  refine (new_D w1).mono ?_
  rintro e w2 ⟨rfl, hd2, hs2⟩
  have D2 := Lib.hid hd2; have S2 := Lib.hid hs2; clear hd2 hs2
  go_wp2_with fail
  refine (new_ref w2).mono ?_
  rintro e w3 ⟨rfl, hw3⟩
  have hdk := desk_new D2.out S2.out hw3
  clear hw3
  go_wp2_with fail
  obtain ⟨w4, hw4⟩ : ∃ w4, w3.alloc (.cells #[.pointer (some ⟨w1.heap.size, 0, none⟩), .pointer (some ⟨w2.heap.size, 0, none⟩)] 30) = w4 := ⟨_, rfl⟩
  rw [hw4] at hdk ⊢
  obtain ⟨⟨r, ρ, hd⟩, hs4⟩ := hdk
  have hcl := hd.cells
  have HD := Lib.hid hd
  have S4 := Lib.hid (Keep.trans S1.out (Since.mono hs4 S1.out.size))
  clear hd hs4 hw4 D2 S2
  have k0 := hcl.1
  go_wp2_with fail
  clear k0
  refine (MM w4).out.mono ?_
  rintro e wx ⟨rfl, rfl⟩
  go_wp2_with fail
  have hrep := repeated_any w4 113 m (by omega)
  obtain ⟨t, ht⟩ : ∃ t, sb (List.replicate m 113) = t := ⟨_, rfl⟩
  have hz : t.size = m := by rw [← ht, sb_size, List.length_replicate]
  rw [ht] at hrep
  refine hrep.mono ?_
  clear hrep ht
  rintro e w5 ⟨rfl, hs5⟩
  have kc5 : w5.cell? ⟨w3.heap.size, 0, none⟩ = some (.pointer (some ⟨r.p, 0, none⟩)) ∧ w5.cell? ⟨w3.heap.size, 1, none⟩ = some (.pointer (some ⟨ρ.p, 0, none⟩)) := ⟨cell_since hs5 hcl.1 (World.block_lt_of_cell? _ _ hcl.1), cell_since hs5 hcl.2 (World.block_lt_of_cell? _ _ hcl.2)⟩
  have hd5 := HD.out.keep hs5 (fun h' => by have := blk_lt HD.out.blk; omega) (fun k hk h' => by have := HD.out.disk.foot_lt k hk; omega) (fun k hk h' => by have := HD.out.ref.foot_lt k hk; omega)
  obtain ⟨off, ho⟩ : ∃ off : Int, 16777216 - (m : Int) - 3 + (f : Int) = off := ⟨_, rfl⟩
  have hob : -100 ≤ off ∧ off ≤ 16777300 := by omega
  obtain ⟨X, hX⟩ : ∃ X, DS.new.doWrite off (bs t) = X := ⟨_, rfl⟩
  have hfw : DS.new.few 100000000 := ⟨by decide, by decide⟩
  have hw1 := write_step (hd5.disk.keep (keep_draw (fun _ => False) w5) (fun _ _ => id)) off t (by omega) (by omega) hfw
  rw [hX] at hw1
  have HW1 := Lib.hid hw1
  have HW2 := Lib.hid (show ∀ w', IsRef w' ρ DS.new → Calls Try.prog 32 #[.pointer (some ⟨ρ.p, 0, none⟩), .int .i64 off, .string t] w' fun e w'' => e = .returned (.int .i64 X.1) ∧ ∃ r', RStep w' ρ w'' r' X.2 from fun w' h => by have := rwrite_step h off t (by omega) (by omega) hfw; rwa [hX] at this)
  have HD5 := Lib.hid hd5
  have KC := Lib.hid kc5
  have S5 := Lib.hid (Keep.trans S4.out (Since.mono hs5 S4.out.size))
  have HO := Lib.hid ho
  have hz1 := hz
  clear hs5 kc5 hd5 hX hfw hw1 hcl ho S4
  go_wp2_with fail
  have s1 : IntKind.i64.wrap (16777216 - (m : Int)) = 16777216 - (m : Int) := IntWalk.i64_in _ (by omega)
  have s2 : IntKind.i64.wrap (16777216 - (m : Int) - 3) = 16777216 - (m : Int) - 3 := IntWalk.i64_in _ (by omega)
  have s3 : IntKind.i64.wrap (16777216 - (m : Int) - 3 + (f : Int)) = off := by rw [HO.out]; exact IntWalk.i64_in _ (by omega)
  go_region_held3 (fun w' => w'.cell? ⟨w3.heap.size, 0, none⟩ = some (.pointer (some ⟨r.p, 0, none⟩)) ∧ w'.cell? ⟨w3.heap.size, 1, none⟩ = some (.pointer (some ⟨ρ.p, 0, none⟩))) (first | exact KC.out)
    (first
      | (go_at_call 22; ((with_reducible refine (MF _).out.mono ?_); rintro e wx ⟨rfl, rfl⟩))
      | (go_at_call 27; ((with_reducible refine HW1.out.mono ?_); rintro e w6 ⟨rfl, r1, hst⟩); have HS1 := Lib.hid hst; replace KC := Lib.hid (cell_two hst.keep KC.out HD5.out.q1); clear hst))
  all_goals clear s1 s2 s3
  all_goals (
    have hr6 : IsRef w6 ρ DS.new := (HD5.out.ref.keep (keep_draw (fun _ => False) w5) (fun _ _ => id)).keep HS1.out.keep (fun k hk hk' => HD5.out.sep k hk' hk)
    have hw2 := HW2.out _ (hr6.keep (keep_draw (fun _ => False) w6) (fun _ _ => id))
    have HW3 := Lib.hid hw2
    clear hr6 hw2
    go_wp2_with fail
    have s1 : IntKind.i64.wrap (16777216 - (m : Int)) = 16777216 - (m : Int) := IntWalk.i64_in _ (by omega)
    have s2 : IntKind.i64.wrap (16777216 - (m : Int) - 3) = 16777216 - (m : Int) - 3 := IntWalk.i64_in _ (by omega)
    have s3 : IntKind.i64.wrap (16777216 - (m : Int) - 3 + (f : Int)) = off := by rw [HO.out]; exact IntWalk.i64_in _ (by omega)
    go_region_held3 (fun w' => w'.cell? ⟨w3.heap.size, 0, none⟩ = some (.pointer (some ⟨r.p, 0, none⟩)) ∧ w'.cell? ⟨w3.heap.size, 1, none⟩ = some (.pointer (some ⟨ρ.p, 0, none⟩))) (first | exact KC.out)
      (first
        | (go_at_call 22; ((with_reducible refine (MF _).out.mono ?_); rintro e wx ⟨rfl, rfl⟩))
        | (go_at_call 32; ((with_reducible refine HW3.out.mono ?_); rintro e w7 ⟨rfl, ρ1, hst⟩); have HS2 := Lib.hid hst; replace KC := Lib.hid (cell_two hst.keep KC.out HD5.out.q2); clear hst))
    all_goals clear s1 s2 s3
    all_goals (
      have hboth := HD5.out.both' (Step.after (keep_draw _ _) HS1.out) (keep_draw (fun _ => False) w6) HS2.out
      have hs7 : Since w.heap.size w w7 := by
        have h1 : Since w.heap.size w w5.drew := Keep.trans S5.out (keep_draw _ _)
        have h2 := Keep.trans h1 (Keep.mono HS1.out.keep (fun k hk => Nat.le_trans S1.out.size (HD5.out.low.2.1 k hk)))
        have h3 := Keep.trans h2 (keep_draw (fun k => w.heap.size ≤ k) w6)
        exact Keep.trans h3 (Keep.mono HS2.out.keep (fun k hk => Nat.le_trans S1.out.size (HD5.out.low.2.2 k hk)))
      have HB := Lib.hid hboth
      have S7 := Lib.hid hs7
      clear hboth hs7
      go_wp2_with fail
      refine (new_D w7).mono ?_
      rintro e w8 ⟨rfl, hd8, hs8⟩
      have D8 := Lib.hid hd8; have Z8 := Lib.hid hs8
      clear hd8 hs8
      go_wp2_with fail
      refine (MK w8).out.mono ?_
      rintro e wx ⟨rfl, rfl⟩
      go_wp2_with fail
      obtain ⟨d5, hd5⟩ : ∃ d5, DS.new.write k (bs ⟨#[]⟩) = d5 := ⟨_, rfl⟩
      have e5 : DS.new.doWrite (k : Int) (bs ⟨#[]⟩) = (0, d5) := by
        unfold DS.doWrite
        rw [if_pos (by unfold fitsAt; simp [bs]; omega), if_neg (by decide), ← hd5]
        rfl
      have hn5 : d5.now = List.replicate k 0 := by
        rw [← hd5]
        show putL [] k [] = _
        simp [putL]
      refine (write_D D8.out (k : Int) ⟨#[]⟩ (by omega) (by decide) ⟨by decide, by decide⟩ e5).mono ?_
      rintro e w10 ⟨rfl, hd10, hs10⟩
      have hs710 : Since w7.heap.size w7 w10 := Keep.trans Z8.out hs10
      have kc : w10.cell? ⟨w3.heap.size, 0, none⟩ = some (.pointer (some ⟨r1.p, 0, none⟩)) ∧ w10.cell? ⟨w3.heap.size, 1, none⟩ = some (.pointer (some ⟨ρ1.p, 0, none⟩)) :=
        ⟨cell_since hs710 HB.out.cells.1 (World.block_lt_of_cell? _ _ HB.out.cells.1), cell_since hs710 HB.out.cells.2 (World.block_lt_of_cell? _ _ HB.out.cells.2)⟩
      have hb10 := HB.out.keep hs710 (fun h' => by have := blk_lt HB.out.blk; omega) (fun k hk h' => by have := HB.out.disk.foot_lt k hk; omega) (fun k hk h' => by have := HB.out.ref.foot_lt k hk; omega)
      have HZ1 := Lib.hid (show ∀ w', Since w10.heap.size w10 w' → Calls Try.prog 17 #[.pointer (some ⟨r1.p, 0, none⟩)] w' fun e w'' => e = .returned (.int .i64 X.2.now.length) ∧ w' = w'' from fun w' hs => size_disk (hb10.disk.keep hs (fun k hk h' => by have := hb10.disk.foot_lt k hk; omega)))
      have HZ2 := Lib.hid (show ∀ w', Since w10.heap.size w10 w' → Calls Try.prog 18 #[.pointer (some ⟨ρ1.p, 0, none⟩)] w' fun e w'' => e = .returned (.int .i64 X.2.now.length) ∧ w' = w'' from fun w' hs => size_ref (hb10.ref.keep hs (fun k hk h' => by have := hb10.ref.foot_lt k hk; omega)))
      have HZ3 := Lib.hid (show ∀ w', Since w10.heap.size w10 w' → Calls Try.prog 17 #[.pointer (some ⟨w7.heap.size, 0, none⟩)] w' fun e w'' => e = .returned (.int .i64 (k : Int)) ∧ w' = w'' from fun w' hs => by have := size_D (hd10.since hs (Nat.le_refl _)); rw [hn5, List.length_replicate] at this; exact this)
      have HZ4 := Lib.hid (show ∀ w', Since w10.heap.size w10 w' → Calls Try.prog 29 #[.pointer (some ⟨w7.heap.size, 0, none⟩), .int .i64 0, .int .i64 ((k : Int) + 1)] w' fun e w'' => e = .returned (.string (sb (List.replicate k 0))) ∧ ∃ m, w'' = w'.drewN m from fun w' hs => by
        have := read_D (hd10.since hs (Nat.le_refl _)) 0 ((k : Int) + 1) (by decide) (by omega)
        rw [hn5, read_over] at this
        exact this)
      have HZ5 := Lib.hid (show ∀ w', Calls Try.prog 27 #[.pointer (some ⟨w7.heap.size, 0, none⟩), .int .i64 (-1 - (k : Int)), .string ⟨#[]⟩] w' fun e w'' => e = .returned (.int .i64 1) ∧ w' = w'' from fun w' => write_bad w' _ _ _ (by omega) (by decide) (.inr (by unfold fitsAt; simp; omega)))
      have HZ6 := Lib.hid (show ∀ w', Calls Try.prog 27 #[.pointer (some ⟨w7.heap.size, 0, none⟩), .int .i64 (9223372036854775807 - (k : Int)), .string ⟨#[97, 98]⟩] w' fun e w'' => e = .returned (.int .i64 1) ∧ w' = w'' from fun w' => write_bad w' _ _ _ (by omega) (by decide) (.inr (by unfold fitsAt; simp; omega)))
      have KD := Lib.hid kc
      have K := Lib.hid (keep_draw (fun i => w10.heap.size ≤ i) w10)
      have S10 := Lib.hid (Keep.trans S7.out (Since.mono hs710 S7.out.size))
      clear hd10 hs10 hs710 kc hb10 e5 hn5 hd5
      have hmk : ∀ W : World, (Instr.makeSlice 56 (.int .i64 (k : Int)) (.int .i64 (k : Int))).run Try.prog W = .ok (.slice (some ⟨W.heap.size, 0, none⟩) k k) (W.alloc (.cells (madeCells #[.int .u8 0] k) 5)) :=
        fun W => run_make_row' 56 5 (.int .u8 0) 1 Try.bytes.ht Try.bytes.info rfl .i64 .i64 k (by omega) (by omega) W
      have hcv : ∀ W : World, (convert 56 9 (.slice (some ⟨W.heap.size, 0, none⟩) k k)).run Try.prog (W.alloc (.cells (madeCells #[.int .u8 0] k) 5)) = .ok (.string (sb (List.replicate k 0))) (W.alloc (.cells (madeCells #[.int .u8 0] k) 5)) := fun W => conv_zeros W _ k rfl
      have hcv1 : ∀ (W : World) (n : Nat), (convert 56 9 (.slice (some ⟨W.heap.size, 0, none⟩) k k)).run Try.prog ((W.alloc (.cells (madeCells #[.int .u8 0] k) 5)).drewN n) = .ok (.string (sb (List.replicate k 0))) ((W.alloc (.cells (madeCells #[.int .u8 0] k) 5)).drewN n) := fun W n => conv_zeros W _ k rfl
      have hcv2 : ∀ (W : World) (n : Nat), (convert 56 9 (.slice (some ⟨W.heap.size, 0, none⟩) k k)).run Try.prog ((W.drewN n).alloc (.cells (madeCells #[.int .u8 0] k) 5)) = .ok (.string (sb (List.replicate k 0))) ((W.drewN n).alloc (.cells (madeCells #[.int .u8 0] k) 5)) := fun W n => conv_zeros W _ k rfl
      have hcv3 : ∀ (W : World) (n m : Nat), (convert 56 9 (.slice (some ⟨W.heap.size, 0, none⟩) k k)).run Try.prog (((W.drewN n).alloc (.cells (madeCells #[.int .u8 0] k) 5)).drewN m) = .ok (.string (sb (List.replicate k 0))) (((W.drewN n).alloc (.cells (madeCells #[.int .u8 0] k) 5)).drewN m) := fun W n m => conv_zeros W _ k rfl
      have hcv4 : ∀ (W : World), (convert 56 9 (.slice (some ⟨W.heap.size, 0, none⟩) k k)).run Try.prog (W.drew.alloc (.cells (madeCells #[.int .u8 0] k) 5)) = .ok (.string (sb (List.replicate k 0))) (W.drew.alloc (.cells (madeCells #[.int .u8 0] k) 5)) := fun W => conv_zeros W _ k rfl
      have hcv5 : ∀ (W : World) (n : Nat), (convert 56 9 (.slice (some ⟨W.heap.size, 0, none⟩) k k)).run Try.prog ((W.drew.alloc (.cells (madeCells #[.int .u8 0] k) 5)).drewN n) = .ok (.string (sb (List.replicate k 0))) ((W.drew.alloc (.cells (madeCells #[.int .u8 0] k) 5)).drewN n) := fun W n => conv_zeros W _ k rfl
      have hcv6 : ∀ (W : World), (convert 56 9 (.slice (some ⟨W.heap.size, 0, none⟩) k k)).run Try.prog ((W.alloc (.cells (madeCells #[.int .u8 0] k) 5)).drew) = .ok (.string (sb (List.replicate k 0))) ((W.alloc (.cells (madeCells #[.int .u8 0] k) 5)).drew) := fun W => conv_zeros W _ k rfl
      have t1 : IntKind.i64.wrap ((k : Int) + 1) = (k : Int) + 1 := IntWalk.i64_in _ (by omega)
      have t2 : IntKind.i64.wrap (-1 - (k : Int)) = -1 - (k : Int) := IntWalk.i64_in _ (by omega)
      have t3 : IntKind.i64.wrap (9223372036854775807 - (k : Int)) = 9223372036854775807 - (k : Int) := IntWalk.i64_in _ (by omega)
      go_wp2_with fail
      have kd0 := KD.out.1
      have kd1 := KD.out.2
      have n0 := World.new_ne w10 _ kd0
      have n1 := World.new_ne w10 _ kd1
      try clear D8; try clear Z8; try clear HB; try clear S7; try clear HS2; try clear HS1; try clear HW3; try clear HW2; try clear HW1; try clear HD5; try clear HO; try clear S5; try clear S1; try clear MF; try clear MM; try clear MK; try clear s1; try clear s2; try clear s3; try clear hob; try clear hrep; try clear hz; try clear hz1; try clear HD; try clear S4; try clear KC
      refine wp_region_held_drew (S := (fun w' => w'.cell? ⟨w3.heap.size, 0, none⟩ = some (.pointer (some ⟨r1.p, 0, none⟩)) ∧ w'.cell? ⟨w3.heap.size, 1, none⟩ = some (.pointer (some ⟨ρ1.p, 0, none⟩)))) (by kernel_rfl) (by first | exact KD.out | go_keep) (fun hH => ?_)
      refine wpAnyH_take (i := 0) (v := ?_) rfl (by kernel_rfl) (by kernel_rfl) (by kernel_rfl) (fun _ _ _ h => h) (Or.inl ⟨by rfl, ?_⟩) hH ?_
      rotate_left
      · (intro w'' hSw; (try dsimp only at hSw); go_simp; try with_reducible rfl)
      change wpAnyH _ _ _ _ _ _ _ (Act.put _ (some 60) _) _
      try simp only [Act.put, List.setIfInBounds_toArray, List.set_cons_zero, List.set_cons_succ]
      refine wpAnyH_take (i := 1) (v := ?_) rfl (by kernel_rfl) (by kernel_rfl) (by kernel_rfl) (fun _ _ _ h => h) (Or.inl ⟨by rfl, ?_⟩) hH ?_
      rotate_left
      · (intro w'' hSw; (try dsimp only at hSw); go_simp; try with_reducible rfl)
      change wpAnyH _ _ _ _ _ _ _ (Act.put _ (some 61) _) _
      try simp only [Act.put, List.setIfInBounds_toArray, List.set_cons_zero, List.set_cons_succ]
      refine wpAnyH_take (i := 2) (v := ?_) rfl (by kernel_rfl) (by kernel_rfl) (by kernel_rfl) (fun _ _ _ h => h) (Or.inl ⟨by rfl, ?_⟩) hH ?_
      rotate_left
      · (intro w'' hSw; (try dsimp only at hSw); go_simp; try with_reducible rfl)
      change wpAnyH _ _ _ _ _ _ _ (Act.put _ (some 62) _) _
      try simp only [Act.put, List.setIfInBounds_toArray, List.set_cons_zero, List.set_cons_succ]
      refine wpAnyH_take (i := 3) (v := ?_) rfl (by kernel_rfl) (by kernel_rfl) (by kernel_rfl) (fun _ _ _ h => h) (Or.inl ⟨by rfl, ?_⟩) hH ?_
      rotate_left
      · (intro w'' hSw; (try dsimp only at hSw); go_simp; try with_reducible rfl)
      change wpAnyH _ _ _ _ _ _ _ (Act.put _ (some 63) _) _
      try simp only [Act.put, List.setIfInBounds_toArray, List.set_cons_zero, List.set_cons_succ]
      refine wpAnyH_take (i := 4) (v := ?_) rfl (by kernel_rfl) (by kernel_rfl) (by kernel_rfl) (fun _ _ _ h => h) (Or.inl ⟨by rfl, ?_⟩) hH ?_
      rotate_left
      · (intro w'' hSw; (try dsimp only at hSw); go_simp; try with_reducible rfl)
      change wpAnyH _ _ _ _ _ _ _ (Act.put _ (some 64) _) _
      try simp only [Act.put, List.setIfInBounds_toArray, List.set_cons_zero, List.set_cons_succ]
      refine wpAnyH_take (i := 5) (v := ?_) rfl (by kernel_rfl) (by kernel_rfl) (by kernel_rfl) (fun _ _ _ h => h) (Or.inl ⟨by rfl, ?_⟩) hH ?_
      rotate_left
      · (intro w'' hSw; (try dsimp only at hSw); go_simp; try with_reducible rfl)
      change wpAnyH _ _ _ _ _ _ _ (Act.put _ (some 65) _) _
      try simp only [Act.put, List.setIfInBounds_toArray, List.set_cons_zero, List.set_cons_succ]
      refine wpAnyH_take (i := 6) (v := ?_) rfl (by kernel_rfl) (by kernel_rfl) (by kernel_rfl) (fun _ _ _ h => h) (Or.inl ⟨by rfl, ?_⟩) hH ?_
      rotate_left
      · (intro w'' hSw; (try dsimp only at hSw); go_simp; try with_reducible rfl)
      change wpAnyH _ _ _ _ _ _ _ (Act.put _ (some 66) _) _
      try simp only [Act.put, List.setIfInBounds_toArray, List.set_cons_zero, List.set_cons_succ]
      refine wpAnyH_take (i := 7) (v := ?_) rfl (by kernel_rfl) (by kernel_rfl) (by kernel_rfl) (fun _ _ _ h => h) (Or.inl ⟨by rfl, ?_⟩) hH ?_
      rotate_left
      · (intro w'' hSw; (try dsimp only at hSw); go_simp; try with_reducible rfl)
      change wpAnyH _ _ _ _ _ _ _ (Act.put _ (some 67) _) _
      try simp only [Act.put, List.setIfInBounds_toArray, List.set_cons_zero, List.set_cons_succ]
      refine wpAnyH_take (i := 8) (v := ?_) rfl (by kernel_rfl) (by kernel_rfl) (by kernel_rfl) (fun _ _ _ h => h) (Or.inl ⟨by rfl, ?_⟩) hH ?_
      rotate_left
      · (intro w'' hSw; (try dsimp only at hSw); go_simp; try with_reducible rfl)
      change wpAnyH _ _ _ _ _ _ _ (Act.put _ (some 68) _) _
      try simp only [Act.put, List.setIfInBounds_toArray, List.set_cons_zero, List.set_cons_succ]
      refine wpAnyH_take (i := 9) (v := ?_) rfl (by kernel_rfl) (by kernel_rfl) (by kernel_rfl) (fun _ _ _ h => h) (Or.inl ⟨by rfl, ?_⟩) hH ?_
      rotate_left
      · (intro w'' hSw; (try dsimp only at hSw); go_simp; try with_reducible rfl)
      change wpAnyH _ _ _ _ _ _ _ (Act.put _ (some 69) _) _
      try simp only [Act.put, List.setIfInBounds_toArray, List.set_cons_zero, List.set_cons_succ]
      refine wpAnyH_take (i := 10) (v := ?_) rfl (by kernel_rfl) (by kernel_rfl) (by kernel_rfl) (fun _ _ _ h => h) (Or.inl ⟨by rfl, ?_⟩) hH ?_
      rotate_left
      · (intro w'' hSw; (try dsimp only at hSw); go_simp; try with_reducible rfl)
      change wpAnyH _ _ _ _ _ _ _ (Act.put _ (some 70) _) _
      try simp only [Act.put, List.setIfInBounds_toArray, List.set_cons_zero, List.set_cons_succ]
      refine wpAnyH_take (i := 12) (v := ?_) rfl (by kernel_rfl) (by kernel_rfl) (by kernel_rfl) (fun _ _ _ h => h) (Or.inl ⟨by rfl, ?_⟩) hH ?_
      rotate_left
      · (intro w'' hSw; (try dsimp only at hSw); go_simp; try with_reducible rfl)
      change wpAnyH _ _ _ _ _ _ _ (Act.put _ (some 72) _) _
      try simp only [Act.put, List.setIfInBounds_toArray, List.set_cons_zero, List.set_cons_succ]
      refine wpAnyH_take (i := 13) (v := ?_) rfl (by kernel_rfl) (by kernel_rfl) (by kernel_rfl) (fun _ _ _ h => h) (Or.inl ⟨by rfl, ?_⟩) hH ?_
      rotate_left
      · (intro w'' hSw; (try dsimp only at hSw); go_simp; try with_reducible rfl)
      change wpAnyH _ _ _ _ _ _ _ (Act.put _ (some 73) _) _
      try simp only [Act.put, List.setIfInBounds_toArray, List.set_cons_zero, List.set_cons_succ]
      refine wpAnyH_take (i := 14) (v := ?_) rfl (by kernel_rfl) (by kernel_rfl) (by kernel_rfl) (fun _ _ _ h => h) (Or.inl ⟨by rfl, ?_⟩) hH ?_
      rotate_left
      · (intro w'' hSw; (try dsimp only at hSw); go_simp; try with_reducible rfl)
      change wpAnyH _ _ _ _ _ _ _ (Act.put _ (some 74) _) _
      try simp only [Act.put, List.setIfInBounds_toArray, List.set_cons_zero, List.set_cons_succ]
      refine wpAnyH_take (i := 15) (v := ?_) rfl (by kernel_rfl) (by kernel_rfl) (by kernel_rfl) (fun _ _ _ h => h) (Or.inl ⟨by rfl, ?_⟩) hH ?_
      rotate_left
      · (intro w'' hSw; (try dsimp only at hSw); go_simp; try with_reducible rfl)
      change wpAnyH _ _ _ _ _ _ _ (Act.put _ (some 75) _) _
      try simp only [Act.put, List.setIfInBounds_toArray, List.set_cons_zero, List.set_cons_succ]
      refine wpAnyH_ready (rs := [11]) (by kernel_rfl) (by simp) ?_
      refine AllReadyH.cons rfl (fun Kn hKn => ?_) AllReadyH.nil
      go_simp
      (go_at_call 17; (with_reducible refine (HZ1.out _ (by first | exact K.out | exact Keep.trans K.out (Since.of ((Keep.refl _ _).alloc' _)))).mono ?_); rintro e wn ⟨rfl, rfl⟩)
      refine hKn.out _ _ ?_ (fun hH => ?_)
      · (first | exact KD.out | go_keep)
      clear hKn Kn
      try simp only [Act.put, List.setIfInBounds_toArray, List.set_cons_zero, List.set_cons_succ]
      refine wpAnyH_ready (rs := [16]) (by kernel_rfl) (by simp) ?_
      refine AllReadyH.cons rfl (fun Kn hKn => ?_) AllReadyH.nil
      go_simp
      (go_at_call 18; (with_reducible refine (HZ2.out _ (by first | exact K.out | exact Keep.trans K.out (Since.of ((Keep.refl _ _).alloc' _)))).mono ?_); rintro e wn ⟨rfl, rfl⟩)
      refine hKn.out _ _ ?_ (fun hH => ?_)
      · (first | exact KD.out | go_keep)
      clear hKn Kn
      try simp only [Act.put, List.setIfInBounds_toArray, List.set_cons_zero, List.set_cons_succ]
      refine wpAnyH_take (i := 17) (v := ?_) rfl (by kernel_rfl) (by kernel_rfl) (by kernel_rfl) (fun _ _ _ h => h) (Or.inl ⟨by rfl, ?_⟩) hH ?_
      rotate_left
      · (intro w'' hSw; (try dsimp only at hSw); go_simp; try with_reducible rfl)
      change wpAnyH _ _ _ _ _ _ _ (Act.put _ (some 77) _) _
      try simp only [Act.put, List.setIfInBounds_toArray, List.set_cons_zero, List.set_cons_succ]
      refine wpAnyH_take (i := 18) (v := ?_) rfl (by kernel_rfl) (by kernel_rfl) (by kernel_rfl) (fun _ _ _ h => h) (Or.inl ⟨by rfl, ?_⟩) hH ?_
      rotate_left
      · (intro w'' hSw; (try dsimp only at hSw); go_simp; try with_reducible rfl)
      change wpAnyH _ _ _ _ _ _ _ (Act.put _ (some 78) _) _
      try simp only [Act.put, List.setIfInBounds_toArray, List.set_cons_zero, List.set_cons_succ]
      refine wpAnyH_take (i := 19) (v := ?_) rfl (by kernel_rfl) (by kernel_rfl) (by kernel_rfl) (fun _ _ _ h => h) (Or.inl ⟨by rfl, ?_⟩) hH ?_
      rotate_left
      · (intro w'' hSw; (try dsimp only at hSw); go_simp; try with_reducible rfl)
      change wpAnyH _ _ _ _ _ _ _ (Act.put _ (some 79) _) _
      try simp only [Act.put, List.setIfInBounds_toArray, List.set_cons_zero, List.set_cons_succ]
      refine wpAnyH_take (i := 20) (v := ?_) rfl (by kernel_rfl) (by kernel_rfl) (by kernel_rfl) (fun _ _ _ h => h) (Or.inl ⟨by rfl, ?_⟩) hH ?_
      rotate_left
      · (intro w'' hSw; (try dsimp only at hSw); go_simp; try with_reducible rfl)
      change wpAnyH _ _ _ _ _ _ _ (Act.put _ (some 80) _) _
      try simp only [Act.put, List.setIfInBounds_toArray, List.set_cons_zero, List.set_cons_succ]
      refine wpAnyH_take (i := 21) (v := ?_) rfl (by kernel_rfl) (by kernel_rfl) (by kernel_rfl) (fun _ _ _ h => h) (Or.inl ⟨by rfl, ?_⟩) hH ?_
      rotate_left
      · (intro w'' hSw; (try dsimp only at hSw); go_simp; try with_reducible rfl)
      change wpAnyH _ _ _ _ _ _ _ (Act.put _ (some 81) _) _
      try simp only [Act.put, List.setIfInBounds_toArray, List.set_cons_zero, List.set_cons_succ]
      refine wpAnyH_take (i := 22) (v := ?_) rfl (by kernel_rfl) (by kernel_rfl) (by kernel_rfl) (fun _ _ _ h => h) (Or.inl ⟨by rfl, ?_⟩) hH ?_
      rotate_left
      · (intro w'' hSw; (try dsimp only at hSw); go_simp; try with_reducible rfl)
      change wpAnyH _ _ _ _ _ _ _ (Act.put _ (some 82) _) _
      try simp only [Act.put, List.setIfInBounds_toArray, List.set_cons_zero, List.set_cons_succ]
      refine wpAnyH_take (i := 23) (v := ?_) rfl (by kernel_rfl) (by kernel_rfl) (by kernel_rfl) (fun _ _ _ h => h) (Or.inl ⟨by rfl, ?_⟩) hH ?_
      rotate_left
      · (intro w'' hSw; (try dsimp only at hSw); go_simp; try with_reducible rfl)
      change wpAnyH _ _ _ _ _ _ _ (Act.put _ (some 83) _) _
      try simp only [Act.put, List.setIfInBounds_toArray, List.set_cons_zero, List.set_cons_succ]
      refine wpAnyH_take (i := 24) (v := ?_) rfl (by kernel_rfl) (by kernel_rfl) (by kernel_rfl) (fun _ _ _ h => h) (Or.inl ⟨by rfl, ?_⟩) hH ?_
      rotate_left
      · (intro w'' hSw; (try dsimp only at hSw); go_simp; try with_reducible rfl)
      change wpAnyH _ _ _ _ _ _ _ (Act.put _ (some 84) _) _
      try simp only [Act.put, List.setIfInBounds_toArray, List.set_cons_zero, List.set_cons_succ]
      refine wpAnyH_take (i := 26) (v := ?_) rfl (by kernel_rfl) (by kernel_rfl) (by kernel_rfl) (fun _ _ _ h => h) (Or.inl ⟨by rfl, ?_⟩) hH ?_
      rotate_left
      · (intro w'' hSw; (try dsimp only at hSw); go_simp; try with_reducible rfl)
      change wpAnyH _ _ _ _ _ _ _ (Act.put _ (some 86) _) _
      try simp only [Act.put, List.setIfInBounds_toArray, List.set_cons_zero, List.set_cons_succ]
      refine wpAnyH_ready (rs := [25]) (by kernel_rfl) (by simp) ?_
      refine AllReadyH.cons rfl (fun Kn hKn => ?_) AllReadyH.nil
      go_simp
      (go_at_call 17; (with_reducible refine (HZ3.out _ (by first | exact K.out | exact Keep.trans K.out (Since.of ((Keep.refl _ _).alloc' _)))).mono ?_); rintro e wn ⟨rfl, rfl⟩)
      refine hKn.out _ _ ?_ (fun hH => ?_)
      · (first | exact KD.out | go_keep)
      clear hKn Kn
      try simp only [Act.put, List.setIfInBounds_toArray, List.set_cons_zero, List.set_cons_succ]
      refine wpAnyH_take (i := 27) (v := ?_) rfl (by kernel_rfl) (by kernel_rfl) (by kernel_rfl) (fun _ _ _ h => h) (Or.inl ⟨by rfl, ?_⟩) hH ?_
      rotate_left
      · (intro w'' hSw; (try dsimp only at hSw); go_simp; try with_reducible rfl)
      change wpAnyH _ _ _ _ _ _ _ (Act.put _ (some 87) _) _
      try simp only [Act.put, List.setIfInBounds_toArray, List.set_cons_zero, List.set_cons_succ]
      refine wpAnyH_take (i := 28) (v := ?_) rfl (by kernel_rfl) (by kernel_rfl) (by kernel_rfl) (fun _ _ _ h => h) (Or.inl ⟨by rfl, ?_⟩) hH ?_
      rotate_left
      · (intro w'' hSw; (try dsimp only at hSw); go_simp; try with_reducible rfl)
      change wpAnyH _ _ _ _ _ _ _ (Act.put _ (some 88) _) _
      try simp only [Act.put, List.setIfInBounds_toArray, List.set_cons_zero, List.set_cons_succ]
      refine wpAnyH_take (i := 29) (v := ?_) rfl (by kernel_rfl) (by kernel_rfl) (by kernel_rfl) (fun _ _ _ h => h) (Or.inl ⟨by rfl, ?_⟩) hH ?_
      rotate_left
      · (intro w'' hSw; (try dsimp only at hSw); go_simp; try with_reducible rfl)
      change wpAnyH _ _ _ _ _ _ _ (Act.put _ (some 89) _) _
      try simp only [Act.put, List.setIfInBounds_toArray, List.set_cons_zero, List.set_cons_succ]
      refine wpAnyH_take (i := 30) (v := ?_) rfl (by kernel_rfl) (by kernel_rfl) (by kernel_rfl) (fun _ _ _ h => h) (Or.inl ⟨by rfl, ?_⟩) hH ?_
      rotate_left
      · (intro w'' hSw; (try dsimp only at hSw); go_simp; try with_reducible rfl)
      change wpAnyH _ _ _ _ _ _ _ (Act.put _ (some 90) _) _
      try simp only [Act.put, List.setIfInBounds_toArray, List.set_cons_zero, List.set_cons_succ]
      refine wpAnyH_take (i := 31) (v := ?_) rfl (by kernel_rfl) (by kernel_rfl) (by kernel_rfl) (fun _ _ _ h => h) (Or.inl ⟨by rfl, ?_⟩) hH ?_
      rotate_left
      · (intro w'' hSw; (try dsimp only at hSw); go_simp; try with_reducible rfl)
      change wpAnyH _ _ _ _ _ _ _ (Act.put _ (some 91) _) _
      try simp only [Act.put, List.setIfInBounds_toArray, List.set_cons_zero, List.set_cons_succ]
      refine wpAnyH_take (i := 32) (v := ?_) rfl (by kernel_rfl) (by kernel_rfl) (by kernel_rfl) (fun _ _ _ h => h) (Or.inl ⟨by rfl, ?_⟩) hH ?_
      rotate_left
      · (intro w'' hSw; (try dsimp only at hSw); go_simp; try with_reducible rfl)
      change wpAnyH _ _ _ _ _ _ _ (Act.put _ (some 92) _) _
      try simp only [Act.put, List.setIfInBounds_toArray, List.set_cons_zero, List.set_cons_succ]
      refine wpAnyH_take (i := 34) (v := ?_) rfl (by kernel_rfl) (by kernel_rfl) (by kernel_rfl) (fun _ _ _ h => h) (Or.inl ⟨by rfl, ?_⟩) hH ?_
      rotate_left
      · (intro w'' hSw; (try dsimp only at hSw); go_simp; try with_reducible rfl)
      change wpAnyH _ _ _ _ _ _ _ (Act.put _ (some 94) _) _
      try simp only [Act.put, List.setIfInBounds_toArray, List.set_cons_zero, List.set_cons_succ]
      refine wpAnyH_ready (rs := [33, 35]) (by kernel_rfl) (by simp) ?_
      refine AllReadyH.cons rfl (fun Kn hKn => ?_) ?_
      · skip
        go_simp
        (go_at_call 29; (with_reducible refine (HZ4.out _ (by first | exact K.out | exact Keep.trans K.out (Since.of ((Keep.refl _ _).alloc' _)))).mono ?_); rintro e wn ⟨rfl, mm, rfl⟩)
        refine hKn.out _ _ ?_ (fun hH => ?_)
        · (first | exact KD.out | go_keep)
        clear hKn Kn
        try simp only [Act.put, List.setIfInBounds_toArray, List.set_cons_zero, List.set_cons_succ]
        refine wpAnyH_ready (rs := [35]) (by kernel_rfl) (by simp) ?_
        refine AllReadyH.cons rfl (fun Kn hKn => ?_) AllReadyH.nil
        go_simp
        skip
        refine hKn.out _ _ ?_ (fun hH => ?_)
        · (first | exact KD.out | go_keep)
        clear hKn Kn
        try simp only [Act.put, List.setIfInBounds_toArray, List.set_cons_zero, List.set_cons_succ]
        refine wpAnyH_ready (rs := [36]) (by kernel_rfl) (by simp) ?_
        refine AllReadyH.cons rfl (fun Kn hKn => ?_) AllReadyH.nil
        go_simp
        skip
        refine hKn.out _ _ ?_ (fun hH => ?_)
        · (first | exact KD.out | go_keep)
        clear hKn Kn
        try simp only [Act.put, List.setIfInBounds_toArray, List.set_cons_zero, List.set_cons_succ]
        refine wpAnyH_take (i := 37) (v := ?_) rfl (by kernel_rfl) (by kernel_rfl) (by kernel_rfl) (fun _ _ _ h => h) (Or.inl ⟨by rfl, ?_⟩) hH ?_
        rotate_left
        · (intro w'' hSw; (try dsimp only at hSw); go_simp; try with_reducible rfl)
        change wpAnyH _ _ _ _ _ _ _ (Act.put _ (some 97) _) _
        try simp only [Act.put, List.setIfInBounds_toArray, List.set_cons_zero, List.set_cons_succ]
        refine wpAnyH_take (i := 38) (v := ?_) rfl (by kernel_rfl) (by kernel_rfl) (by kernel_rfl) (fun _ _ _ h => h) (Or.inl ⟨by rfl, ?_⟩) hH ?_
        rotate_left
        · (intro w'' hSw; (try dsimp only at hSw); go_simp; try with_reducible rfl)
        change wpAnyH _ _ _ _ _ _ _ (Act.put _ (some 98) _) _
        try simp only [Act.put, List.setIfInBounds_toArray, List.set_cons_zero, List.set_cons_succ]
        refine wpAnyH_take (i := 39) (v := ?_) rfl (by kernel_rfl) (by kernel_rfl) (by kernel_rfl) (fun _ _ _ h => h) (Or.inl ⟨by rfl, ?_⟩) hH ?_
        rotate_left
        · (intro w'' hSw; (try dsimp only at hSw); go_simp; try with_reducible rfl)
        change wpAnyH _ _ _ _ _ _ _ (Act.put _ (some 99) _) _
        try simp only [Act.put, List.setIfInBounds_toArray, List.set_cons_zero, List.set_cons_succ]
        refine wpAnyH_take (i := 40) (v := ?_) rfl (by kernel_rfl) (by kernel_rfl) (by kernel_rfl) (fun _ _ _ h => h) (Or.inl ⟨by rfl, ?_⟩) hH ?_
        rotate_left
        · (intro w'' hSw; (try dsimp only at hSw); go_simp; try with_reducible rfl)
        change wpAnyH _ _ _ _ _ _ _ (Act.put _ (some 100) _) _
        try simp only [Act.put, List.setIfInBounds_toArray, List.set_cons_zero, List.set_cons_succ]
        refine wpAnyH_take (i := 41) (v := ?_) rfl (by kernel_rfl) (by kernel_rfl) (by kernel_rfl) (fun _ _ _ h => h) (Or.inl ⟨by rfl, ?_⟩) hH ?_
        rotate_left
        · (intro w'' hSw; (try dsimp only at hSw); go_simp; try with_reducible rfl)
        change wpAnyH _ _ _ _ _ _ _ (Act.put _ (some 101) _) _
        try simp only [Act.put, List.setIfInBounds_toArray, List.set_cons_zero, List.set_cons_succ]
        refine wpAnyH_take (i := 42) (v := ?_) rfl (by kernel_rfl) (by kernel_rfl) (by kernel_rfl) (fun _ _ _ h => h) (Or.inl ⟨by rfl, ?_⟩) hH ?_
        rotate_left
        · (intro w'' hSw; (try dsimp only at hSw); go_simp; try with_reducible rfl)
        change wpAnyH _ _ _ _ _ _ _ (Act.put _ (some 102) _) _
        try simp only [Act.put, List.setIfInBounds_toArray, List.set_cons_zero, List.set_cons_succ]
        refine wpAnyH_ready (rs := [43]) (by kernel_rfl) (by simp) ?_
        refine AllReadyH.cons rfl (fun Kn hKn => ?_) AllReadyH.nil
        go_simp
        (go_at_call 27; (with_reducible refine (HZ5.out _).mono ?_); rintro e wn ⟨rfl, rfl⟩)
        refine hKn.out _ _ ?_ (fun hH => ?_)
        · (first | exact KD.out | go_keep)
        clear hKn Kn
        try simp only [Act.put, List.setIfInBounds_toArray, List.set_cons_zero, List.set_cons_succ]
        refine wpAnyH_take (i := 44) (v := ?_) rfl (by kernel_rfl) (by kernel_rfl) (by kernel_rfl) (fun _ _ _ h => h) (Or.inl ⟨by rfl, ?_⟩) hH ?_
        rotate_left
        · (intro w'' hSw; (try dsimp only at hSw); go_simp; try with_reducible rfl)
        change wpAnyH _ _ _ _ _ _ _ (Act.put _ (some 104) _) _
        try simp only [Act.put, List.setIfInBounds_toArray, List.set_cons_zero, List.set_cons_succ]
        refine wpAnyH_take (i := 45) (v := ?_) rfl (by kernel_rfl) (by kernel_rfl) (by kernel_rfl) (fun _ _ _ h => h) (Or.inl ⟨by rfl, ?_⟩) hH ?_
        rotate_left
        · (intro w'' hSw; (try dsimp only at hSw); go_simp; try with_reducible rfl)
        change wpAnyH _ _ _ _ _ _ _ (Act.put _ (some 105) _) _
        try simp only [Act.put, List.setIfInBounds_toArray, List.set_cons_zero, List.set_cons_succ]
        refine wpAnyH_take (i := 46) (v := ?_) rfl (by kernel_rfl) (by kernel_rfl) (by kernel_rfl) (fun _ _ _ h => h) (Or.inl ⟨by rfl, ?_⟩) hH ?_
        rotate_left
        · (intro w'' hSw; (try dsimp only at hSw); go_simp; try with_reducible rfl)
        change wpAnyH _ _ _ _ _ _ _ (Act.put _ (some 106) _) _
        try simp only [Act.put, List.setIfInBounds_toArray, List.set_cons_zero, List.set_cons_succ]
        refine wpAnyH_take (i := 47) (v := ?_) rfl (by kernel_rfl) (by kernel_rfl) (by kernel_rfl) (fun _ _ _ h => h) (Or.inl ⟨by rfl, ?_⟩) hH ?_
        rotate_left
        · (intro w'' hSw; (try dsimp only at hSw); go_simp; try with_reducible rfl)
        change wpAnyH _ _ _ _ _ _ _ (Act.put _ (some 107) _) _
        try simp only [Act.put, List.setIfInBounds_toArray, List.set_cons_zero, List.set_cons_succ]
        refine wpAnyH_take (i := 48) (v := ?_) rfl (by kernel_rfl) (by kernel_rfl) (by kernel_rfl) (fun _ _ _ h => h) (Or.inl ⟨by rfl, ?_⟩) hH ?_
        rotate_left
        · (intro w'' hSw; (try dsimp only at hSw); go_simp; try with_reducible rfl)
        change wpAnyH _ _ _ _ _ _ _ (Act.put _ (some 108) _) _
        try simp only [Act.put, List.setIfInBounds_toArray, List.set_cons_zero, List.set_cons_succ]
        refine wpAnyH_take (i := 49) (v := ?_) rfl (by kernel_rfl) (by kernel_rfl) (by kernel_rfl) (fun _ _ _ h => h) (Or.inl ⟨by rfl, ?_⟩) hH ?_
        rotate_left
        · (intro w'' hSw; (try dsimp only at hSw); go_simp; try with_reducible rfl)
        change wpAnyH _ _ _ _ _ _ _ (Act.put _ (some 109) _) _
        try simp only [Act.put, List.setIfInBounds_toArray, List.set_cons_zero, List.set_cons_succ]
        refine wpAnyH_ready (rs := [50]) (by kernel_rfl) (by simp) ?_
        refine AllReadyH.cons rfl (fun Kn hKn => ?_) AllReadyH.nil
        go_simp
        (go_at_call 27; (with_reducible refine (HZ6.out _).mono ?_); rintro e wn ⟨rfl, rfl⟩)
        refine hKn.out _ _ ?_ (fun hH => ?_)
        · (first | exact KD.out | go_keep)
        clear hKn Kn
        try simp only [Act.put, List.setIfInBounds_toArray, List.set_cons_zero, List.set_cons_succ]
        refine wpAnyH_take (i := 51) (v := ?_) rfl (by kernel_rfl) (by kernel_rfl) (by kernel_rfl) (fun _ _ _ h => h) (Or.inl ⟨by rfl, ?_⟩) hH ?_
        rotate_left
        · (intro w'' hSw; (try dsimp only at hSw); go_simp; try with_reducible rfl)
        change wpAnyH _ _ _ _ _ _ _ (Act.put _ (some 111) _) _
        try simp only [Act.put, List.setIfInBounds_toArray, List.set_cons_zero, List.set_cons_succ]
        refine wpAnyH_take (i := 52) (v := ?_) rfl (by kernel_rfl) (by kernel_rfl) (by kernel_rfl) (fun _ _ _ h => h) (Or.inl ⟨by rfl, ?_⟩) hH ?_
        rotate_left
        · (intro w'' hSw; (try dsimp only at hSw); go_simp; try with_reducible rfl)
        change wpAnyH _ _ _ _ _ _ _ (Act.put _ (some 112) _) _
        try simp only [Act.put, List.setIfInBounds_toArray, List.set_cons_zero, List.set_cons_succ]
        refine wpAnyH_take (i := 53) (v := ?_) rfl (by kernel_rfl) (by kernel_rfl) (by kernel_rfl) (fun _ _ _ h => h) (Or.inl ⟨by rfl, ?_⟩) hH ?_
        rotate_left
        · (intro w'' hSw; (try dsimp only at hSw); go_simp; try with_reducible rfl)
        change wpAnyH _ _ _ _ _ _ _ (Act.put _ (some 6) _) _
        try simp only [Act.put, List.setIfInBounds_toArray, List.set_cons_zero, List.set_cons_succ]
        refine wpAnyH_done (by kernel_rfl) ?_ _
        clear kd0 kd1 n0 n1 hcv hcv1 hcv2 hcv3 hcv4 hcv5 hcv6 hmk t1 t2 t3
        go_wp2_with fail
        go_ret
        refine ⟨rfl, below_since ?_ rfl⟩
        (repeat' (first | exact S10.out | (with_reducible refine Keep.trans ?_ (since_draw _ _ _)) | (with_reducible refine Keep.trans ?_ (keep_draw _ _)) | (refine Keep.trans ?_ (Since.of ((Keep.refl _ _).alloc' _)))))
      refine AllReadyH.cons rfl (fun Kn hKn => ?_) ?_
      · skip
        go_simp
        skip
        refine hKn.out _ _ ?_ (fun hH => ?_)
        · (first | exact KD.out | go_keep)
        clear hKn Kn
        try simp only [Act.put, List.setIfInBounds_toArray, List.set_cons_zero, List.set_cons_succ]
        refine wpAnyH_ready (rs := [33, 36]) (by kernel_rfl) (by simp) ?_
        refine AllReadyH.cons rfl (fun Kn hKn => ?_) ?_
        · skip
          go_simp
          (go_at_call 29; (with_reducible refine (HZ4.out _ (by first | exact K.out | exact Keep.trans K.out (Since.of ((Keep.refl _ _).alloc' _)))).mono ?_); rintro e wn ⟨rfl, mm, rfl⟩)
          refine hKn.out _ _ ?_ (fun hH => ?_)
          · (first | exact KD.out | go_keep)
          clear hKn Kn
          try simp only [Act.put, List.setIfInBounds_toArray, List.set_cons_zero, List.set_cons_succ]
          refine wpAnyH_ready (rs := [36]) (by kernel_rfl) (by simp) ?_
          refine AllReadyH.cons rfl (fun Kn hKn => ?_) AllReadyH.nil
          go_simp
          skip
          refine hKn.out _ _ ?_ (fun hH => ?_)
          · (first | exact KD.out | go_keep)
          clear hKn Kn
          try simp only [Act.put, List.setIfInBounds_toArray, List.set_cons_zero, List.set_cons_succ]
          refine wpAnyH_take (i := 37) (v := ?_) rfl (by kernel_rfl) (by kernel_rfl) (by kernel_rfl) (fun _ _ _ h => h) (Or.inl ⟨by rfl, ?_⟩) hH ?_
          rotate_left
          · (intro w'' hSw; (try dsimp only at hSw); go_simp; try with_reducible rfl)
          change wpAnyH _ _ _ _ _ _ _ (Act.put _ (some 97) _) _
          try simp only [Act.put, List.setIfInBounds_toArray, List.set_cons_zero, List.set_cons_succ]
          refine wpAnyH_take (i := 38) (v := ?_) rfl (by kernel_rfl) (by kernel_rfl) (by kernel_rfl) (fun _ _ _ h => h) (Or.inl ⟨by rfl, ?_⟩) hH ?_
          rotate_left
          · (intro w'' hSw; (try dsimp only at hSw); go_simp; try with_reducible rfl)
          change wpAnyH _ _ _ _ _ _ _ (Act.put _ (some 98) _) _
          try simp only [Act.put, List.setIfInBounds_toArray, List.set_cons_zero, List.set_cons_succ]
          refine wpAnyH_take (i := 39) (v := ?_) rfl (by kernel_rfl) (by kernel_rfl) (by kernel_rfl) (fun _ _ _ h => h) (Or.inl ⟨by rfl, ?_⟩) hH ?_
          rotate_left
          · (intro w'' hSw; (try dsimp only at hSw); go_simp; try with_reducible rfl)
          change wpAnyH _ _ _ _ _ _ _ (Act.put _ (some 99) _) _
          try simp only [Act.put, List.setIfInBounds_toArray, List.set_cons_zero, List.set_cons_succ]
          refine wpAnyH_take (i := 40) (v := ?_) rfl (by kernel_rfl) (by kernel_rfl) (by kernel_rfl) (fun _ _ _ h => h) (Or.inl ⟨by rfl, ?_⟩) hH ?_
          rotate_left
          · (intro w'' hSw; (try dsimp only at hSw); go_simp; try with_reducible rfl)
          change wpAnyH _ _ _ _ _ _ _ (Act.put _ (some 100) _) _
          try simp only [Act.put, List.setIfInBounds_toArray, List.set_cons_zero, List.set_cons_succ]
          refine wpAnyH_take (i := 41) (v := ?_) rfl (by kernel_rfl) (by kernel_rfl) (by kernel_rfl) (fun _ _ _ h => h) (Or.inl ⟨by rfl, ?_⟩) hH ?_
          rotate_left
          · (intro w'' hSw; (try dsimp only at hSw); go_simp; try with_reducible rfl)
          change wpAnyH _ _ _ _ _ _ _ (Act.put _ (some 101) _) _
          try simp only [Act.put, List.setIfInBounds_toArray, List.set_cons_zero, List.set_cons_succ]
          refine wpAnyH_take (i := 42) (v := ?_) rfl (by kernel_rfl) (by kernel_rfl) (by kernel_rfl) (fun _ _ _ h => h) (Or.inl ⟨by rfl, ?_⟩) hH ?_
          rotate_left
          · (intro w'' hSw; (try dsimp only at hSw); go_simp; try with_reducible rfl)
          change wpAnyH _ _ _ _ _ _ _ (Act.put _ (some 102) _) _
          try simp only [Act.put, List.setIfInBounds_toArray, List.set_cons_zero, List.set_cons_succ]
          refine wpAnyH_ready (rs := [43]) (by kernel_rfl) (by simp) ?_
          refine AllReadyH.cons rfl (fun Kn hKn => ?_) AllReadyH.nil
          go_simp
          (go_at_call 27; (with_reducible refine (HZ5.out _).mono ?_); rintro e wn ⟨rfl, rfl⟩)
          refine hKn.out _ _ ?_ (fun hH => ?_)
          · (first | exact KD.out | go_keep)
          clear hKn Kn
          try simp only [Act.put, List.setIfInBounds_toArray, List.set_cons_zero, List.set_cons_succ]
          refine wpAnyH_take (i := 44) (v := ?_) rfl (by kernel_rfl) (by kernel_rfl) (by kernel_rfl) (fun _ _ _ h => h) (Or.inl ⟨by rfl, ?_⟩) hH ?_
          rotate_left
          · (intro w'' hSw; (try dsimp only at hSw); go_simp; try with_reducible rfl)
          change wpAnyH _ _ _ _ _ _ _ (Act.put _ (some 104) _) _
          try simp only [Act.put, List.setIfInBounds_toArray, List.set_cons_zero, List.set_cons_succ]
          refine wpAnyH_take (i := 45) (v := ?_) rfl (by kernel_rfl) (by kernel_rfl) (by kernel_rfl) (fun _ _ _ h => h) (Or.inl ⟨by rfl, ?_⟩) hH ?_
          rotate_left
          · (intro w'' hSw; (try dsimp only at hSw); go_simp; try with_reducible rfl)
          change wpAnyH _ _ _ _ _ _ _ (Act.put _ (some 105) _) _
          try simp only [Act.put, List.setIfInBounds_toArray, List.set_cons_zero, List.set_cons_succ]
          refine wpAnyH_take (i := 46) (v := ?_) rfl (by kernel_rfl) (by kernel_rfl) (by kernel_rfl) (fun _ _ _ h => h) (Or.inl ⟨by rfl, ?_⟩) hH ?_
          rotate_left
          · (intro w'' hSw; (try dsimp only at hSw); go_simp; try with_reducible rfl)
          change wpAnyH _ _ _ _ _ _ _ (Act.put _ (some 106) _) _
          try simp only [Act.put, List.setIfInBounds_toArray, List.set_cons_zero, List.set_cons_succ]
          refine wpAnyH_take (i := 47) (v := ?_) rfl (by kernel_rfl) (by kernel_rfl) (by kernel_rfl) (fun _ _ _ h => h) (Or.inl ⟨by rfl, ?_⟩) hH ?_
          rotate_left
          · (intro w'' hSw; (try dsimp only at hSw); go_simp; try with_reducible rfl)
          change wpAnyH _ _ _ _ _ _ _ (Act.put _ (some 107) _) _
          try simp only [Act.put, List.setIfInBounds_toArray, List.set_cons_zero, List.set_cons_succ]
          refine wpAnyH_take (i := 48) (v := ?_) rfl (by kernel_rfl) (by kernel_rfl) (by kernel_rfl) (fun _ _ _ h => h) (Or.inl ⟨by rfl, ?_⟩) hH ?_
          rotate_left
          · (intro w'' hSw; (try dsimp only at hSw); go_simp; try with_reducible rfl)
          change wpAnyH _ _ _ _ _ _ _ (Act.put _ (some 108) _) _
          try simp only [Act.put, List.setIfInBounds_toArray, List.set_cons_zero, List.set_cons_succ]
          refine wpAnyH_take (i := 49) (v := ?_) rfl (by kernel_rfl) (by kernel_rfl) (by kernel_rfl) (fun _ _ _ h => h) (Or.inl ⟨by rfl, ?_⟩) hH ?_
          rotate_left
          · (intro w'' hSw; (try dsimp only at hSw); go_simp; try with_reducible rfl)
          change wpAnyH _ _ _ _ _ _ _ (Act.put _ (some 109) _) _
          try simp only [Act.put, List.setIfInBounds_toArray, List.set_cons_zero, List.set_cons_succ]
          refine wpAnyH_ready (rs := [50]) (by kernel_rfl) (by simp) ?_
          refine AllReadyH.cons rfl (fun Kn hKn => ?_) AllReadyH.nil
          go_simp
          (go_at_call 27; (with_reducible refine (HZ6.out _).mono ?_); rintro e wn ⟨rfl, rfl⟩)
          refine hKn.out _ _ ?_ (fun hH => ?_)
          · (first | exact KD.out | go_keep)
          clear hKn Kn
          try simp only [Act.put, List.setIfInBounds_toArray, List.set_cons_zero, List.set_cons_succ]
          refine wpAnyH_take (i := 51) (v := ?_) rfl (by kernel_rfl) (by kernel_rfl) (by kernel_rfl) (fun _ _ _ h => h) (Or.inl ⟨by rfl, ?_⟩) hH ?_
          rotate_left
          · (intro w'' hSw; (try dsimp only at hSw); go_simp; try with_reducible rfl)
          change wpAnyH _ _ _ _ _ _ _ (Act.put _ (some 111) _) _
          try simp only [Act.put, List.setIfInBounds_toArray, List.set_cons_zero, List.set_cons_succ]
          refine wpAnyH_take (i := 52) (v := ?_) rfl (by kernel_rfl) (by kernel_rfl) (by kernel_rfl) (fun _ _ _ h => h) (Or.inl ⟨by rfl, ?_⟩) hH ?_
          rotate_left
          · (intro w'' hSw; (try dsimp only at hSw); go_simp; try with_reducible rfl)
          change wpAnyH _ _ _ _ _ _ _ (Act.put _ (some 112) _) _
          try simp only [Act.put, List.setIfInBounds_toArray, List.set_cons_zero, List.set_cons_succ]
          refine wpAnyH_take (i := 53) (v := ?_) rfl (by kernel_rfl) (by kernel_rfl) (by kernel_rfl) (fun _ _ _ h => h) (Or.inl ⟨by rfl, ?_⟩) hH ?_
          rotate_left
          · (intro w'' hSw; (try dsimp only at hSw); go_simp; try with_reducible rfl)
          change wpAnyH _ _ _ _ _ _ _ (Act.put _ (some 6) _) _
          try simp only [Act.put, List.setIfInBounds_toArray, List.set_cons_zero, List.set_cons_succ]
          refine wpAnyH_done (by kernel_rfl) ?_ _
          clear kd0 kd1 n0 n1 hcv hcv1 hcv2 hcv3 hcv4 hcv5 hcv6 hmk t1 t2 t3
          go_wp2_with fail
          go_ret
          refine ⟨rfl, below_since ?_ rfl⟩
          (repeat' (first | exact S10.out | (with_reducible refine Keep.trans ?_ (since_draw _ _ _)) | (with_reducible refine Keep.trans ?_ (keep_draw _ _)) | (refine Keep.trans ?_ (Since.of ((Keep.refl _ _).alloc' _)))))
        refine AllReadyH.cons rfl (fun Kn hKn => ?_) ?_
        · skip
          go_simp
          skip
          refine hKn.out _ _ ?_ (fun hH => ?_)
          · (first | exact KD.out | go_keep)
          clear hKn Kn
          try simp only [Act.put, List.setIfInBounds_toArray, List.set_cons_zero, List.set_cons_succ]
          refine wpAnyH_ready (rs := [33]) (by kernel_rfl) (by simp) ?_
          refine AllReadyH.cons rfl (fun Kn hKn => ?_) AllReadyH.nil
          go_simp
          (go_at_call 29; (with_reducible refine (HZ4.out _ (by first | exact K.out | exact Keep.trans K.out (Since.of ((Keep.refl _ _).alloc' _)))).mono ?_); rintro e wn ⟨rfl, mm, rfl⟩)
          refine hKn.out _ _ ?_ (fun hH => ?_)
          · (first | exact KD.out | go_keep)
          clear hKn Kn
          try simp only [Act.put, List.setIfInBounds_toArray, List.set_cons_zero, List.set_cons_succ]
          refine wpAnyH_take (i := 37) (v := ?_) rfl (by kernel_rfl) (by kernel_rfl) (by kernel_rfl) (fun _ _ _ h => h) (Or.inl ⟨by rfl, ?_⟩) hH ?_
          rotate_left
          · (intro w'' hSw; (try dsimp only at hSw); go_simp; try with_reducible rfl)
          change wpAnyH _ _ _ _ _ _ _ (Act.put _ (some 97) _) _
          try simp only [Act.put, List.setIfInBounds_toArray, List.set_cons_zero, List.set_cons_succ]
          refine wpAnyH_take (i := 38) (v := ?_) rfl (by kernel_rfl) (by kernel_rfl) (by kernel_rfl) (fun _ _ _ h => h) (Or.inl ⟨by rfl, ?_⟩) hH ?_
          rotate_left
          · (intro w'' hSw; (try dsimp only at hSw); go_simp; try with_reducible rfl)
          change wpAnyH _ _ _ _ _ _ _ (Act.put _ (some 98) _) _
          try simp only [Act.put, List.setIfInBounds_toArray, List.set_cons_zero, List.set_cons_succ]
          refine wpAnyH_take (i := 39) (v := ?_) rfl (by kernel_rfl) (by kernel_rfl) (by kernel_rfl) (fun _ _ _ h => h) (Or.inl ⟨by rfl, ?_⟩) hH ?_
          rotate_left
          · (intro w'' hSw; (try dsimp only at hSw); go_simp; try with_reducible rfl)
          change wpAnyH _ _ _ _ _ _ _ (Act.put _ (some 99) _) _
          try simp only [Act.put, List.setIfInBounds_toArray, List.set_cons_zero, List.set_cons_succ]
          refine wpAnyH_take (i := 40) (v := ?_) rfl (by kernel_rfl) (by kernel_rfl) (by kernel_rfl) (fun _ _ _ h => h) (Or.inl ⟨by rfl, ?_⟩) hH ?_
          rotate_left
          · (intro w'' hSw; (try dsimp only at hSw); go_simp; try with_reducible rfl)
          change wpAnyH _ _ _ _ _ _ _ (Act.put _ (some 100) _) _
          try simp only [Act.put, List.setIfInBounds_toArray, List.set_cons_zero, List.set_cons_succ]
          refine wpAnyH_take (i := 41) (v := ?_) rfl (by kernel_rfl) (by kernel_rfl) (by kernel_rfl) (fun _ _ _ h => h) (Or.inl ⟨by rfl, ?_⟩) hH ?_
          rotate_left
          · (intro w'' hSw; (try dsimp only at hSw); go_simp; try with_reducible rfl)
          change wpAnyH _ _ _ _ _ _ _ (Act.put _ (some 101) _) _
          try simp only [Act.put, List.setIfInBounds_toArray, List.set_cons_zero, List.set_cons_succ]
          refine wpAnyH_take (i := 42) (v := ?_) rfl (by kernel_rfl) (by kernel_rfl) (by kernel_rfl) (fun _ _ _ h => h) (Or.inl ⟨by rfl, ?_⟩) hH ?_
          rotate_left
          · (intro w'' hSw; (try dsimp only at hSw); go_simp; try with_reducible rfl)
          change wpAnyH _ _ _ _ _ _ _ (Act.put _ (some 102) _) _
          try simp only [Act.put, List.setIfInBounds_toArray, List.set_cons_zero, List.set_cons_succ]
          refine wpAnyH_ready (rs := [43]) (by kernel_rfl) (by simp) ?_
          refine AllReadyH.cons rfl (fun Kn hKn => ?_) AllReadyH.nil
          go_simp
          (go_at_call 27; (with_reducible refine (HZ5.out _).mono ?_); rintro e wn ⟨rfl, rfl⟩)
          refine hKn.out _ _ ?_ (fun hH => ?_)
          · (first | exact KD.out | go_keep)
          clear hKn Kn
          try simp only [Act.put, List.setIfInBounds_toArray, List.set_cons_zero, List.set_cons_succ]
          refine wpAnyH_take (i := 44) (v := ?_) rfl (by kernel_rfl) (by kernel_rfl) (by kernel_rfl) (fun _ _ _ h => h) (Or.inl ⟨by rfl, ?_⟩) hH ?_
          rotate_left
          · (intro w'' hSw; (try dsimp only at hSw); go_simp; try with_reducible rfl)
          change wpAnyH _ _ _ _ _ _ _ (Act.put _ (some 104) _) _
          try simp only [Act.put, List.setIfInBounds_toArray, List.set_cons_zero, List.set_cons_succ]
          refine wpAnyH_take (i := 45) (v := ?_) rfl (by kernel_rfl) (by kernel_rfl) (by kernel_rfl) (fun _ _ _ h => h) (Or.inl ⟨by rfl, ?_⟩) hH ?_
          rotate_left
          · (intro w'' hSw; (try dsimp only at hSw); go_simp; try with_reducible rfl)
          change wpAnyH _ _ _ _ _ _ _ (Act.put _ (some 105) _) _
          try simp only [Act.put, List.setIfInBounds_toArray, List.set_cons_zero, List.set_cons_succ]
          refine wpAnyH_take (i := 46) (v := ?_) rfl (by kernel_rfl) (by kernel_rfl) (by kernel_rfl) (fun _ _ _ h => h) (Or.inl ⟨by rfl, ?_⟩) hH ?_
          rotate_left
          · (intro w'' hSw; (try dsimp only at hSw); go_simp; try with_reducible rfl)
          change wpAnyH _ _ _ _ _ _ _ (Act.put _ (some 106) _) _
          try simp only [Act.put, List.setIfInBounds_toArray, List.set_cons_zero, List.set_cons_succ]
          refine wpAnyH_take (i := 47) (v := ?_) rfl (by kernel_rfl) (by kernel_rfl) (by kernel_rfl) (fun _ _ _ h => h) (Or.inl ⟨by rfl, ?_⟩) hH ?_
          rotate_left
          · (intro w'' hSw; (try dsimp only at hSw); go_simp; try with_reducible rfl)
          change wpAnyH _ _ _ _ _ _ _ (Act.put _ (some 107) _) _
          try simp only [Act.put, List.setIfInBounds_toArray, List.set_cons_zero, List.set_cons_succ]
          refine wpAnyH_take (i := 48) (v := ?_) rfl (by kernel_rfl) (by kernel_rfl) (by kernel_rfl) (fun _ _ _ h => h) (Or.inl ⟨by rfl, ?_⟩) hH ?_
          rotate_left
          · (intro w'' hSw; (try dsimp only at hSw); go_simp; try with_reducible rfl)
          change wpAnyH _ _ _ _ _ _ _ (Act.put _ (some 108) _) _
          try simp only [Act.put, List.setIfInBounds_toArray, List.set_cons_zero, List.set_cons_succ]
          refine wpAnyH_take (i := 49) (v := ?_) rfl (by kernel_rfl) (by kernel_rfl) (by kernel_rfl) (fun _ _ _ h => h) (Or.inl ⟨by rfl, ?_⟩) hH ?_
          rotate_left
          · (intro w'' hSw; (try dsimp only at hSw); go_simp; try with_reducible rfl)
          change wpAnyH _ _ _ _ _ _ _ (Act.put _ (some 109) _) _
          try simp only [Act.put, List.setIfInBounds_toArray, List.set_cons_zero, List.set_cons_succ]
          refine wpAnyH_ready (rs := [50]) (by kernel_rfl) (by simp) ?_
          refine AllReadyH.cons rfl (fun Kn hKn => ?_) AllReadyH.nil
          go_simp
          (go_at_call 27; (with_reducible refine (HZ6.out _).mono ?_); rintro e wn ⟨rfl, rfl⟩)
          refine hKn.out _ _ ?_ (fun hH => ?_)
          · (first | exact KD.out | go_keep)
          clear hKn Kn
          try simp only [Act.put, List.setIfInBounds_toArray, List.set_cons_zero, List.set_cons_succ]
          refine wpAnyH_take (i := 51) (v := ?_) rfl (by kernel_rfl) (by kernel_rfl) (by kernel_rfl) (fun _ _ _ h => h) (Or.inl ⟨by rfl, ?_⟩) hH ?_
          rotate_left
          · (intro w'' hSw; (try dsimp only at hSw); go_simp; try with_reducible rfl)
          change wpAnyH _ _ _ _ _ _ _ (Act.put _ (some 111) _) _
          try simp only [Act.put, List.setIfInBounds_toArray, List.set_cons_zero, List.set_cons_succ]
          refine wpAnyH_take (i := 52) (v := ?_) rfl (by kernel_rfl) (by kernel_rfl) (by kernel_rfl) (fun _ _ _ h => h) (Or.inl ⟨by rfl, ?_⟩) hH ?_
          rotate_left
          · (intro w'' hSw; (try dsimp only at hSw); go_simp; try with_reducible rfl)
          change wpAnyH _ _ _ _ _ _ _ (Act.put _ (some 112) _) _
          try simp only [Act.put, List.setIfInBounds_toArray, List.set_cons_zero, List.set_cons_succ]
          refine wpAnyH_take (i := 53) (v := ?_) rfl (by kernel_rfl) (by kernel_rfl) (by kernel_rfl) (fun _ _ _ h => h) (Or.inl ⟨by rfl, ?_⟩) hH ?_
          rotate_left
          · (intro w'' hSw; (try dsimp only at hSw); go_simp; try with_reducible rfl)
          change wpAnyH _ _ _ _ _ _ _ (Act.put _ (some 6) _) _
          try simp only [Act.put, List.setIfInBounds_toArray, List.set_cons_zero, List.set_cons_succ]
          refine wpAnyH_done (by kernel_rfl) ?_ _
          clear kd0 kd1 n0 n1 hcv hcv1 hcv2 hcv3 hcv4 hcv5 hcv6 hmk t1 t2 t3
          go_wp2_with fail
          go_ret
          refine ⟨rfl, below_since ?_ rfl⟩
          (repeat' (first | exact S10.out | (with_reducible refine Keep.trans ?_ (since_draw _ _ _)) | (with_reducible refine Keep.trans ?_ (keep_draw _ _)) | (refine Keep.trans ?_ (Since.of ((Keep.refl _ _).alloc' _)))))
        exact AllReadyH.nil
      exact AllReadyH.nil))
set_option maxRecDepth 100000 in
theorem limits_lifted (os : Os) (started : os.Started) (H : Type) (enc : TypeId × Value → H) :
    ReturnsInHanded {} Try.checked os 11 .any (Rows.diskLimitsSpec.pre6 enc Try.prog Try.f11 Rows.diskLimitsRow.domain false) (Rows.diskLimitsSpec.post enc Try.prog Try.f11 false true false false) := by
  refine law_lift (C := Try.checked) Try.own started (by kernel_rfl) Try.func11
    (ChangeSpec.witness6 (enc := enc) (C := Try.checked) false ⟨#[], #[.int .i64 0, .int .i64 0, .int .i64 0], []⟩ 8 (by kernel_rfl) (by kernel_rfl) (by kernel_rfl) (by kernel_rfl))
    Try.laidOut (by kernel_rfl) rfl rfl Try.underlying4 ?_ ?_
  · intro ds hl
    match ds, hl with
    | [d1, d2, d3], _ => exact ⟨rfl, rfl, rfl⟩
  · intro W base args ds p hval0 hA0 hlt hsz0
    have hval : ∀ (j : Nat) t v, Try.f11.params[j]? = some t → args[j]? = some v → Value.okWide Try.prog W .any base t v := hval0
    have hA : DataW.TrodAll enc Try.prog W 0 (fun _ => true) true Try.f11.params.toList args.toList ds p := hA0
    have hsz : (DataW.weightsEach Try.prog Try.f11.params.toList ds).all (· ≤ reachBytes) = true := hsz0
    rw [Try.params11] at hA hval hsz
    clear hA0 hval0 hsz0
    obtain ⟨v0, v1, v2, d0, d1, d2, p0, p1, p2, rfl, rfl, rfl, h0, h1, h2⟩ := trodAll_three hA
    obtain ⟨a, rfl, rfl, rfl, wa⟩ := open_int Try.underlying3 (hval 0 3 v0 rfl rfl) h0
    obtain ⟨b, rfl, rfl, rfl, wb⟩ := open_int Try.underlying3 (hval 1 3 v1 rfl rfl) h1
    obtain ⟨c, rfl, rfl, rfl, wc⟩ := open_int Try.underlying3 (hval 2 3 v2 rfl rfl) h2
    exact limits_walk a b c (bd_i64 wa) (bd_i64 wb) (bd_i64 wc) W

/-- The statement. -/
theorem limits_holds : Rows.DiskLimitsSaid :=
  OpenClaim.holds_of_wide 11 Try.f11 rfl rfl rfl rfl rfl rfl rfl ⟨rfl, rfl, rfl, rfl, rfl⟩ rfl rfl rfl rfl rfl (by kernel_rfl) Try.func11 (by kernel_rfl)
    (of_decide_eq_true (by kernel_rfl)) (by unfold Func.isWrapper; first | (rw [if_pos (by decide +kernel)]; kernel_rfl) | (rw [if_neg (by decide +kernel)]; exact ⟨rfl, rfl⟩))
    (fun os started H enc _ => limits_lifted os started H enc)
#print axioms limits_holds
end Go.Proofs.Ythhcnfbolhoeaaa
