/- AccountWorlds: worlds are right as by the reference implementation, also such in which something is another thing, twice: for all numbers of a world and all changes the law returns true. -/
import Derived.Test.YtbbeoeoengogpaaW7
import Derived.Test.YtbbeoeoengogpaaX3
import Derived.Test.YtbbeoeoengogpaaXG
namespace Go.Proofs.Ytbbeoeoengogpaa
open Go.ChangeShapes Go.WideShapes Go.ChangeAt Go.RowKit Go.Lib
set_option linter.unusedVariables false
set_option linter.unusedSimpArgs false

theorem right_len {d : WD} (h : d.right = true) : Len d 1000 ∧ d.fuel.length = d.limit.length := by
  simp only [WD.right, r0, r1, r2, r3, r4, r6, r7, Bool.and_eq_true, decide_eq_true_eq] at h
  obtain ⟨⟨⟨⟨⟨⟨⟨h0, h1⟩, h2⟩, h3⟩, h4⟩, h5⟩, h6⟩, h7⟩ := h
  unfold Len
  omega
theorem since_below {w w' : World} (h : Below w.heap.size w w') : Since w.heap.size w w' := ⟨h.os, h.tape, h.output, h.size, fun k hk hn => h.block k hk⟩
theorem ints_since {W W' : World} {A : Option Addr} {n : Nat} {xs : List Int} (h : IntsAt W A n xs) (hk : Since W.heap.size W W') : IntsAt W' A n xs := by
  by_cases h0 : n = 0
  · subst h0
    have e := List.eq_nil_of_length_eq_zero h.1
    unfold IntsAt
    rw [e]
    exact CellsAt.nil _ _
  · obtain ⟨b', off, e', hl, _⟩ := h.2.2 (by omega)
    exact h.keep hk (fun b e hf => by
      rw [e] at e'
      injection e' with e'
      subst e'
      simp only at hl hf
      omega)
def WDz : WD := ⟨[], [], [], [], [], 0⟩
def WSz : WS := ⟨none, 0, none, 0, none, 0, none, 0, none, 0⟩
theorem wr_zero (W : World) : WR W WDz WSz := ⟨⟨0, World.ownsRow_nil _ _ _ _⟩, ⟨0, World.ownsRow_nil _ _ _ _⟩, ⟨0, World.ownsRow_nil _ _ _ _⟩, ⟨0, World.ownsRow_nil _ _ _ _⟩, ⟨0, World.ownsRow_nil _ _ _ _⟩, by simp [WDz], by simp [WDz]⟩
theorem right_zero : WDz.right = false := rfl
/-- What the law carries: three worlds, and the row of four. -/
structure LW (w : World) (S : Nat) (d1 : WD) (s1 : WS) (d2 : WD) (s2 : WS) (d3 : WD) (s3 : WS) (W : World) : Prop where
  blk : W.heap[S]? = some (.cells #[.slice s1.A0 d1.ins.length s1.c0, .slice s1.A1 d1.clocks.length s1.c1, .slice s1.A2 d1.choices.length s1.c2, .slice s1.A3 d1.fuel.length s1.c3, .slice s1.A4 d1.limit.length s1.c4, .int .i64 d1.epoch, .slice s2.A0 d2.ins.length s2.c0, .slice s2.A1 d2.clocks.length s2.c1, .slice s2.A2 d2.choices.length s2.c2, .slice s2.A3 d2.fuel.length s2.c3, .slice s2.A4 d2.limit.length s2.c4, .int .i64 d2.epoch, .slice s3.A0 d3.ins.length s3.c0, .slice s3.A1 d3.clocks.length s3.c1, .slice s3.A2 d3.choices.length s3.c2, .slice s3.A3 d3.fuel.length s3.c3, .slice s3.A4 d3.limit.length s3.c4, .int .i64 d3.epoch, .slice none 0 0, .slice none 0 0, .slice none 0 0, .slice none 0 0, .slice none 0 0, .int .i64 0] 63 (0, 0))
  a : WR W d1 s1
  b : WR W d2 s2
  c : WR W d3 s3
  since : Since w.heap.size w W
theorem LW.quiet {w W W' : World} {S : Nat} {d1 d2 d3 : WD} {s1 s2 s3 : WS} (h : LW w S d1 s1 d2 s2 d3 s3 W) (hk : Since W.heap.size W W') : LW w S d1 s1 d2 s2 d3 s3 W' :=
  ⟨(hk.block S (blk_lt h.blk) (by have := blk_lt h.blk; omega)).trans h.blk, h.a.since hk, h.b.since hk, h.c.since hk, Keep.trans h.since (Since.mono hk h.since.size)⟩
theorem blk_since {W W' : World} {b : Nat} {o : Obj} (h : W.heap[b]? = some o) (hk : Since W.heap.size W W') : W'.heap[b]? = some o := (hk.block b (blk_lt h) (by have := blk_lt h; omega)).trans h

set_option maxRecDepth 100000 in
set_option maxHeartbeats 16000000 in
theorem worlds_walk (A0 : Option Addr) (n0 c0 : Nat) (xs0 : List Int) (a b c x y z : Int) (w : World) (h0 : IntsAt w A0 n0 xs0) (hn0 : n0 ≤ 140737488351232) :
    Calls Try.prog 10 #[.slice A0 n0 c0, .agg #[.int .i64 a, .int .i64 b, .int .i64 c, .int .i64 x, .int .i64 y, .int .i64 z]] w fun e w' => e = .returned (.bool true) ∧ Below w.heap.size w w' := by
  have H0 := Lib.hid h0
  clear h0
  go_enter Try.func10, Try.ntmps10
  go_wp2_with fail
  have hka := Since.of (n := w.heap.size) ((Keep.refl (fun _ => False) w).alloc' (.cells #[.int .i64 a, .int .i64 b, .int .i64 c, .int .i64 x, .int .i64 y, .int .i64 z] 61))
  have hq0 := heap_alloc_new w (.cells #[.int .i64 a, .int .i64 b, .int .i64 c, .int .i64 x, .int .i64 y, .int .i64 z] 61)
  have hi0 := H0.out.keep ((Keep.refl (fun _ => False) w).alloc' (.cells #[.int .i64 a, .int .i64 b, .int .i64 c, .int .i64 x, .int .i64 y, .int .i64 z] 61)) (fun _ _ => id)
  obtain ⟨w0, hw0⟩ : ∃ w0, w.alloc (.cells #[.int .i64 a, .int .i64 b, .int .i64 c, .int .i64 x, .int .i64 y, .int .i64 z] 61) = w0 := ⟨_, rfl⟩
  obtain ⟨E, hE⟩ : ∃ E, w.heap.size = E := ⟨_, rfl⟩
  rw [hw0] at hka hq0 hi0
  rw [hE] at hq0
  rw [hw0, hE]
  clear hw0 hE
  ((with_reducible refine (sanity_any w0).mono ?_); rintro e w1 ⟨rfl, hk1⟩)
  have hs1 := since_below hk1
  have S1 := Lib.hid (Keep.trans hka (Since.mono hs1 hka.size))
  have Q1 := Lib.hid (blk_since hq0 hs1)
  have I1 := Lib.hid (ints_since hi0 hs1)
  clear hka hq0 hi0 hk1 hs1 H0
  go_wp2_with fail
  ((with_reducible refine (world_any I1.out hn0).mono ?_); rintro e w2 ⟨d1, s1, rfl, hr1, hd1, hs2⟩)
  have RD := Lib.hid hd1.1
  have RL := Lib.hid (right_len hd1.1)
  have RP := Lib.hid hd1.2
  have ka := (Keep.refl (fun _ => False) w2).alloc' (.cells #[.slice s1.A0 d1.ins.length s1.c0, .slice s1.A1 d1.clocks.length s1.c1, .slice s1.A2 d1.choices.length s1.c2, .slice s1.A3 d1.fuel.length s1.c3, .slice s1.A4 d1.limit.length s1.c4, .int .i64 d1.epoch] 63)
  have S2 := Lib.hid (Keep.trans S1.out (Since.mono (Keep.trans hs2 (Since.of ka)) S1.out.size))
  have Q2 := Lib.hid (blk_since (blk_since Q1.out hs2) (Since.of ka))
  have R1 := Lib.hid (hr1.since (Since.of ka))
  have B1 := Lib.hid (heap_alloc_new w2 (.cells #[.slice s1.A0 d1.ins.length s1.c0, .slice s1.A1 d1.clocks.length s1.c1, .slice s1.A2 d1.choices.length s1.c2, .slice s1.A3 d1.fuel.length s1.c3, .slice s1.A4 d1.limit.length s1.c4, .int .i64 d1.epoch] 63))
  clear hr1 hd1 hs2 ka I1 Q1 S1
  go_upto_region 3 with (fail)
  obtain ⟨W2, hW⟩ : ∃ W2, w2.alloc (.cells #[.slice s1.A0 d1.ins.length s1.c0, .slice s1.A1 d1.clocks.length s1.c1, .slice s1.A2 d1.choices.length s1.c2, .slice s1.A3 d1.fuel.length s1.c3, .slice s1.A4 d1.limit.length s1.c4, .int .i64 d1.epoch] 63) = W2 := ⟨_, rfl⟩
  obtain ⟨F, hF⟩ : ∃ F, w2.heap.size = F := ⟨_, rfl⟩
  rw [hW] at S2 Q2 R1 B1
  rw [hF] at B1
  rw [hW, hF]
  clear hW hF
  have u0 : W2.cell? ⟨F, 0, none⟩ = some (.slice s1.A0 d1.ins.length s1.c0) := (blk_cell B1.out 0).trans rfl
  have u1 : W2.cell? ⟨F, 1, none⟩ = some (.slice s1.A1 d1.clocks.length s1.c1) := (blk_cell B1.out 1).trans rfl
  have u2 : W2.cell? ⟨F, 2, none⟩ = some (.slice s1.A2 d1.choices.length s1.c2) := (blk_cell B1.out 2).trans rfl
  have u3 : W2.cell? ⟨F, 3, none⟩ = some (.slice s1.A3 d1.fuel.length s1.c3) := (blk_cell B1.out 3).trans rfl
  have u4 : W2.cell? ⟨F, 4, none⟩ = some (.slice s1.A4 d1.limit.length s1.c4) := (blk_cell B1.out 4).trans rfl
  have u5 : W2.cell? ⟨F, 5, none⟩ = some (.int .i64 d1.epoch) := (blk_cell B1.out 5).trans rfl
  have v0 : W2.cell? ⟨E, 0, none⟩ = some (.int .i64 a) := (blk_cell Q2.out 0).trans rfl
  have v1 : W2.cell? ⟨E, 1, none⟩ = some (.int .i64 b) := (blk_cell Q2.out 1).trans rfl
  have v2 : W2.cell? ⟨E, 2, none⟩ = some (.int .i64 c) := (blk_cell Q2.out 2).trans rfl
  go_wp2_with fail
  clear u0 u1 u2 u3 u4 u5 v0 v1 v2
  ((with_reducible refine (bent_any R1.out ⟨RP.out, by have := RL.out.2; have := RP.out; omega⟩ 1000 (by omega) RL.out.1 a b c).mono ?_); rintro e w3 ⟨d2, s2, rfl, hr2, hd2, hs3⟩)
  have ka := (Keep.refl (fun _ => False) w3).alloc' (.cells #[.slice s2.A0 d2.ins.length s2.c0, .slice s2.A1 d2.clocks.length s2.c1, .slice s2.A2 d2.choices.length s2.c2, .slice s2.A3 d2.fuel.length s2.c3, .slice s2.A4 d2.limit.length s2.c4, .int .i64 d2.epoch] 63)
  have S3 := Lib.hid (Keep.trans S2.out (Since.mono (Keep.trans hs3 (Since.of ka)) S2.out.size))
  have Q3 := Lib.hid (blk_since (blk_since Q2.out hs3) (Since.of ka))
  have T1 := Lib.hid ((R1.out.since hs3).since (Since.of ka))
  have B2 := Lib.hid (blk_since (blk_since B1.out hs3) (Since.of ka))
  have R2 := Lib.hid (hr2.since (Since.of ka))
  have B3 := Lib.hid (heap_alloc_new w3 (.cells #[.slice s2.A0 d2.ins.length s2.c0, .slice s2.A1 d2.clocks.length s2.c1, .slice s2.A2 d2.choices.length s2.c2, .slice s2.A3 d2.fuel.length s2.c3, .slice s2.A4 d2.limit.length s2.c4, .int .i64 d2.epoch] 63))
  have L2 := Lib.hid hd2
  clear hr2 hd2 hs3 ka Q2 S2 R1 B1
  go_upto_region 4 with (fail)
  obtain ⟨W3, hW⟩ : ∃ W3, w3.alloc (.cells #[.slice s2.A0 d2.ins.length s2.c0, .slice s2.A1 d2.clocks.length s2.c1, .slice s2.A2 d2.choices.length s2.c2, .slice s2.A3 d2.fuel.length s2.c3, .slice s2.A4 d2.limit.length s2.c4, .int .i64 d2.epoch] 63) = W3 := ⟨_, rfl⟩
  obtain ⟨G, hG⟩ : ∃ G, w3.heap.size = G := ⟨_, rfl⟩
  rw [hW] at S3 Q3 T1 B2 R2 B3
  rw [hG] at B3
  rw [hW, hG]
  clear hW hG
  refine wp_region_drewU (S := (fun w' => Hid (w'.heap[F]? = some (.cells #[.slice s1.A0 d1.ins.length s1.c0, .slice s1.A1 d1.clocks.length s1.c1, .slice s1.A2 d1.choices.length s1.c2, .slice s1.A3 d1.fuel.length s1.c3, .slice s1.A4 d1.limit.length s1.c4, .int .i64 d1.epoch] 63 (0, 0)) ∧ w'.heap[G]? = some (.cells #[.slice s2.A0 d2.ins.length s2.c0, .slice s2.A1 d2.clocks.length s2.c1, .slice s2.A2 d2.choices.length s2.c2, .slice s2.A3 d2.fuel.length s2.c3, .slice s2.A4 d2.limit.length s2.c4, .int .i64 d2.epoch] 63 (0, 0)) ∧ w'.heap[E]? = some (.cells #[.int .i64 a, .int .i64 b, .int .i64 c, .int .i64 x, .int .i64 y, .int .i64 z] 61 (0, 0))))) (D := []) (by kernel_rfl) (by exact Lib.hid ⟨B2.out, B3.out, Q3.out⟩) (fun hH => ?_)
  refine wpAnyU_take (i := 0) (v := ?_) rfl (by kernel_rfl) (by kernel_rfl) (by kernel_rfl) (by kernel_rfl) (fun _ _ _ h => h) (Or.inl ⟨by rfl, ?_⟩) hH ?_
  rotate_left
  · (intro w'' hSw; have p0 : w''.cell? ⟨F, 0, none⟩ = some (.slice s1.A0 d1.ins.length s1.c0) := (blk_cell hSw.out.1 0).trans rfl; have p1 : w''.cell? ⟨F, 1, none⟩ = some (.slice s1.A1 d1.clocks.length s1.c1) := (blk_cell hSw.out.1 1).trans rfl; have p2 : w''.cell? ⟨F, 2, none⟩ = some (.slice s1.A2 d1.choices.length s1.c2) := (blk_cell hSw.out.1 2).trans rfl; have p3 : w''.cell? ⟨F, 3, none⟩ = some (.slice s1.A3 d1.fuel.length s1.c3) := (blk_cell hSw.out.1 3).trans rfl; have p4 : w''.cell? ⟨F, 4, none⟩ = some (.slice s1.A4 d1.limit.length s1.c4) := (blk_cell hSw.out.1 4).trans rfl; have p5 : w''.cell? ⟨F, 5, none⟩ = some (.int .i64 d1.epoch) := (blk_cell hSw.out.1 5).trans rfl; go_simp; try with_reducible rfl)
  change wpAnyU _ _ _ _ _ _ _ _ (Act.put _ (some 18) _) _
  try simp only [Act.put, List.setIfInBounds_toArray, List.set_cons_zero, List.set_cons_succ]
  refine wpAnyU_take (i := 1) (v := ?_) rfl (by kernel_rfl) (by kernel_rfl) (by kernel_rfl) (by kernel_rfl) (fun _ _ _ h => h) (Or.inl ⟨by rfl, ?_⟩) hH ?_
  rotate_left
  · (intro w'' hSw; have p0 : w''.cell? ⟨G, 0, none⟩ = some (.slice s2.A0 d2.ins.length s2.c0) := (blk_cell hSw.out.2.1 0).trans rfl; have p1 : w''.cell? ⟨G, 1, none⟩ = some (.slice s2.A1 d2.clocks.length s2.c1) := (blk_cell hSw.out.2.1 1).trans rfl; have p2 : w''.cell? ⟨G, 2, none⟩ = some (.slice s2.A2 d2.choices.length s2.c2) := (blk_cell hSw.out.2.1 2).trans rfl; have p3 : w''.cell? ⟨G, 3, none⟩ = some (.slice s2.A3 d2.fuel.length s2.c3) := (blk_cell hSw.out.2.1 3).trans rfl; have p4 : w''.cell? ⟨G, 4, none⟩ = some (.slice s2.A4 d2.limit.length s2.c4) := (blk_cell hSw.out.2.1 4).trans rfl; have p5 : w''.cell? ⟨G, 5, none⟩ = some (.int .i64 d2.epoch) := (blk_cell hSw.out.2.1 5).trans rfl; go_simp; try with_reducible rfl)
  change wpAnyU _ _ _ _ _ _ _ _ (Act.put _ (some 19) _) _
  try simp only [Act.put, List.setIfInBounds_toArray, List.set_cons_zero, List.set_cons_succ]
  refine wpAnyU_take (i := 2) (v := ?_) rfl (by kernel_rfl) (by kernel_rfl) (by kernel_rfl) (by kernel_rfl) (fun _ _ _ h => h) (Or.inl ⟨by rfl, ?_⟩) hH ?_
  rotate_left
  · (intro w'' hSw; have p0 : w''.cell? ⟨G, 0, none⟩ = some (.slice s2.A0 d2.ins.length s2.c0) := (blk_cell hSw.out.2.1 0).trans rfl; have p1 : w''.cell? ⟨G, 1, none⟩ = some (.slice s2.A1 d2.clocks.length s2.c1) := (blk_cell hSw.out.2.1 1).trans rfl; have p2 : w''.cell? ⟨G, 2, none⟩ = some (.slice s2.A2 d2.choices.length s2.c2) := (blk_cell hSw.out.2.1 2).trans rfl; have p3 : w''.cell? ⟨G, 3, none⟩ = some (.slice s2.A3 d2.fuel.length s2.c3) := (blk_cell hSw.out.2.1 3).trans rfl; have p4 : w''.cell? ⟨G, 4, none⟩ = some (.slice s2.A4 d2.limit.length s2.c4) := (blk_cell hSw.out.2.1 4).trans rfl; have p5 : w''.cell? ⟨G, 5, none⟩ = some (.int .i64 d2.epoch) := (blk_cell hSw.out.2.1 5).trans rfl; go_simp; try with_reducible rfl)
  change wpAnyU _ _ _ _ _ _ _ _ (Act.put _ (some 20) _) _
  try simp only [Act.put, List.setIfInBounds_toArray, List.set_cons_zero, List.set_cons_succ]
  refine wpAnyU_take (i := 3) (v := ?_) rfl (by kernel_rfl) (by kernel_rfl) (by kernel_rfl) (by kernel_rfl) (fun _ _ _ h => h) (Or.inl ⟨by rfl, ?_⟩) hH ?_
  rotate_left
  · (intro w'' hSw; (try dsimp only at hSw); go_simp; try with_reducible rfl)
  change wpAnyU _ _ _ _ _ _ _ _ (Act.put _ (some 21) _) _
  try simp only [Act.put, List.setIfInBounds_toArray, List.set_cons_zero, List.set_cons_succ]
  refine wpAnyU_take (i := 4) (v := ?_) rfl (by kernel_rfl) (by kernel_rfl) (by kernel_rfl) (by kernel_rfl) (fun _ _ _ h => h) (Or.inl ⟨by rfl, ?_⟩) hH ?_
  rotate_left
  · (intro w'' hSw; have p0 : w''.cell? ⟨E, 3, none⟩ = some (.int .i64 x) := (blk_cell hSw.out.2.2 3).trans rfl; have p1 : w''.cell? ⟨E, 4, none⟩ = some (.int .i64 y) := (blk_cell hSw.out.2.2 4).trans rfl; have p2 : w''.cell? ⟨E, 5, none⟩ = some (.int .i64 z) := (blk_cell hSw.out.2.2 5).trans rfl; go_simp; try with_reducible rfl)
  change wpAnyU _ _ _ _ _ _ _ _ (Act.put _ (some 22) _) _
  try simp only [Act.put, List.setIfInBounds_toArray, List.set_cons_zero, List.set_cons_succ]
  refine wpAnyU_take (i := 6) (v := ?_) rfl (by kernel_rfl) (by kernel_rfl) (by kernel_rfl) (by kernel_rfl) (fun _ _ _ h => h) (Or.inl ⟨by rfl, ?_⟩) hH ?_
  rotate_left
  · (intro w'' hSw; (try dsimp only at hSw); go_simp; try with_reducible rfl)
  change wpAnyU _ _ _ _ _ _ _ _ (Act.put _ (some 24) _) _
  try simp only [Act.put, List.setIfInBounds_toArray, List.set_cons_zero, List.set_cons_succ]
  refine wpAnyU_take (i := 9) (v := ?_) rfl (by kernel_rfl) (by kernel_rfl) (by kernel_rfl) (by kernel_rfl) (fun _ _ _ h => h) (Or.inl ⟨by rfl, ?_⟩) hH ?_
  rotate_left
  · (intro w'' hSw; (try dsimp only at hSw); go_simp; try with_reducible rfl)
  change wpAnyU _ _ _ _ _ _ _ _ (Act.put _ (some 27) _) _
  try simp only [Act.put, List.setIfInBounds_toArray, List.set_cons_zero, List.set_cons_succ]
  refine wpAnyU_ready (rs := [5]) (by kernel_rfl) (by simp) ?_
  refine AllReadyU.cons rfl (fun Kn hKn => ?_) AllReadyU.nil
  go_simp
  go_at_call 28
  (with_reducible refine (bent_any (R2.out.since (Since.of (keep_draw _ W3))) L2.out.1 2001 (by omega) L2.out.2 x y z).mono ?_)
  rintro e w4 ⟨d3, s3, rfl, hr3, hd3, hk⟩
  refine hKn.out _ _ ?_ (fun hH => ?_)
  · (exact Lib.hid ⟨blk_since hH.out.1 hk, blk_since hH.out.2.1 hk, blk_since hH.out.2.2 hk⟩)
  clear hKn Kn
  try simp only [Act.put, List.setIfInBounds_toArray, List.set_cons_zero, List.set_cons_succ]
  have T3 := Lib.hid hr3
  have K4 := Lib.hid (Keep.trans (Since.of (n := W3.heap.size) (keep_draw _ W3)) hk)
  clear hr3 hd3 hk
  refine wpAnyU_ready (rs := [7]) (by kernel_rfl) (by simp) ?_
  refine AllReadyU.cons rfl (fun Kn hKn => ?_) AllReadyU.nil
  go_simp
  refine hKn.out _ _ ?_ (fun hH => ?_)
  · (first | exact Lib.hid ⟨blk_since hH.out.1 (Since.of ((Keep.refl _ _).alloc' _)), blk_since hH.out.2.1 (Since.of ((Keep.refl _ _).alloc' _)), blk_since hH.out.2.2 (Since.of ((Keep.refl _ _).alloc' _))⟩)
  clear hKn Kn
  try simp only [Act.put, List.setIfInBounds_toArray, List.set_cons_zero, List.set_cons_succ]
  refine wpAnyU_take (i := 8) (v := ?_) rfl (by kernel_rfl) (by kernel_rfl) (by kernel_rfl) (by kernel_rfl) (fun _ _ _ h => h) (Or.inl ⟨by rfl, ?_⟩) hH ?_
  rotate_left
  · (intro w'' hSw; (try dsimp only at hSw); go_simp; try with_reducible rfl)
  change wpAnyU _ _ _ _ _ _ _ _ (Act.put _ (some 26) _) _
  try simp only [Act.put, List.setIfInBounds_toArray, List.set_cons_zero, List.set_cons_succ]
  refine wpAnyU_done (by kernel_rfl) ?_ _
  have ka := (Keep.refl (fun _ => False) w4).alloc' (.cells #[.slice s1.A0 d1.ins.length s1.c0, .slice s1.A1 d1.clocks.length s1.c1, .slice s1.A2 d1.choices.length s1.c2, .slice s1.A3 d1.fuel.length s1.c3, .slice s1.A4 d1.limit.length s1.c4, .int .i64 d1.epoch, .slice s2.A0 d2.ins.length s2.c0, .slice s2.A1 d2.clocks.length s2.c1, .slice s2.A2 d2.choices.length s2.c2, .slice s2.A3 d2.fuel.length s2.c3, .slice s2.A4 d2.limit.length s2.c4, .int .i64 d2.epoch, .slice s3.A0 d3.ins.length s3.c0, .slice s3.A1 d3.clocks.length s3.c1, .slice s3.A2 d3.choices.length s3.c2, .slice s3.A3 d3.fuel.length s3.c3, .slice s3.A4 d3.limit.length s3.c4, .int .i64 d3.epoch, .slice none 0 0, .slice none 0 0, .slice none 0 0, .slice none 0 0, .slice none 0 0, .int .i64 0] 63)
  have L0 : Hid (LW w w4.heap.size d1 s1 d2 s2 d3 s3 (w4.alloc (.cells #[.slice s1.A0 d1.ins.length s1.c0, .slice s1.A1 d1.clocks.length s1.c1, .slice s1.A2 d1.choices.length s1.c2, .slice s1.A3 d1.fuel.length s1.c3, .slice s1.A4 d1.limit.length s1.c4, .int .i64 d1.epoch, .slice s2.A0 d2.ins.length s2.c0, .slice s2.A1 d2.clocks.length s2.c1, .slice s2.A2 d2.choices.length s2.c2, .slice s2.A3 d2.fuel.length s2.c3, .slice s2.A4 d2.limit.length s2.c4, .int .i64 d2.epoch, .slice s3.A0 d3.ins.length s3.c0, .slice s3.A1 d3.clocks.length s3.c1, .slice s3.A2 d3.choices.length s3.c2, .slice s3.A3 d3.fuel.length s3.c3, .slice s3.A4 d3.limit.length s3.c4, .int .i64 d3.epoch, .slice none 0 0, .slice none 0 0, .slice none 0 0, .slice none 0 0, .slice none 0 0, .int .i64 0] 63))) := Lib.hid ⟨heap_alloc_new _ _, (T1.out.since K4.out).since (Since.of ka), (R2.out.since K4.out).since (Since.of ka), T3.out.since (Since.of ka), Keep.trans S3.out (Since.mono (Keep.trans K4.out (Since.of ka)) S3.out.size)⟩
  obtain ⟨W4, hW⟩ : ∃ W4, w4.alloc (.cells #[.slice s1.A0 d1.ins.length s1.c0, .slice s1.A1 d1.clocks.length s1.c1, .slice s1.A2 d1.choices.length s1.c2, .slice s1.A3 d1.fuel.length s1.c3, .slice s1.A4 d1.limit.length s1.c4, .int .i64 d1.epoch, .slice s2.A0 d2.ins.length s2.c0, .slice s2.A1 d2.clocks.length s2.c1, .slice s2.A2 d2.choices.length s2.c2, .slice s2.A3 d2.fuel.length s2.c3, .slice s2.A4 d2.limit.length s2.c4, .int .i64 d2.epoch, .slice s3.A0 d3.ins.length s3.c0, .slice s3.A1 d3.clocks.length s3.c1, .slice s3.A2 d3.choices.length s3.c2, .slice s3.A3 d3.fuel.length s3.c3, .slice s3.A4 d3.limit.length s3.c4, .int .i64 d3.epoch, .slice none 0 0, .slice none 0 0, .slice none 0 0, .slice none 0 0, .slice none 0 0, .int .i64 0] 63) = W4 := ⟨_, rfl⟩
  obtain ⟨A, hA⟩ : ∃ A, w4.heap.size = A := ⟨_, rfl⟩
  rw [hW, hA] at L0
  rw [hW, hA]
  clear hW hA ka T1 T3 K4 R2 B2 B3 Q3 S3 hH L2
  go_wp2_with fail
  go_loopw [27] (fun i wr => ∃ k : Nat, k ≤ 4 ∧ i = .int .i64 (k : Int) ∧ Hid (LW w A d1 s1 d2 s2 d3 s3 wr)) (fun i _ => 4 + 1 - (intOf i).toNat)
  case atStart => exact ⟨0, by omega, rfl, L0⟩
  case round =>
    obtain ⟨k, hk, rfl, LL⟩ := hrel
    obtain ⟨wo, rfl⟩ : ∃ wo : World, wo = wr := ⟨_, rfl⟩
    clear L0
    by_cases hlt : k < 4
    · rcases (show k = 0 ∨ k = 1 ∨ k = 2 ∨ k = 3 by omega) with rfl | rfl | rfl | rfl
      · have u0 : wo.cell? ⟨A, 0, none⟩ = some (.slice s1.A0 d1.ins.length s1.c0) := (blk_cell LL.out.blk 0).trans rfl
        have u1 : wo.cell? ⟨A, 1, none⟩ = some (.slice s1.A1 d1.clocks.length s1.c1) := (blk_cell LL.out.blk 1).trans rfl
        have u2 : wo.cell? ⟨A, 2, none⟩ = some (.slice s1.A2 d1.choices.length s1.c2) := (blk_cell LL.out.blk 2).trans rfl
        have u3 : wo.cell? ⟨A, 3, none⟩ = some (.slice s1.A3 d1.fuel.length s1.c3) := (blk_cell LL.out.blk 3).trans rfl
        have u4 : wo.cell? ⟨A, 4, none⟩ = some (.slice s1.A4 d1.limit.length s1.c4) := (blk_cell LL.out.blk 4).trans rfl
        have u5 : wo.cell? ⟨A, 5, none⟩ = some (.int .i64 d1.epoch) := (blk_cell LL.out.blk 5).trans rfl
        go_upto_region 7 with (fail)
        have ka := (Keep.refl (fun _ => False) wo).alloc' (.cells #[.slice s1.A0 d1.ins.length s1.c0, .slice s1.A1 d1.clocks.length s1.c1, .slice s1.A2 d1.choices.length s1.c2, .slice s1.A3 d1.fuel.length s1.c3, .slice s1.A4 d1.limit.length s1.c4, .int .i64 d1.epoch] 63)
        have LA := Lib.hid (LL.out.quiet (Since.of ka))
        have RA := Lib.hid ((LL.out.a).since (Since.of ka))
        have BA := Lib.hid (heap_alloc_new wo (.cells #[.slice s1.A0 d1.ins.length s1.c0, .slice s1.A1 d1.clocks.length s1.c1, .slice s1.A2 d1.choices.length s1.c2, .slice s1.A3 d1.fuel.length s1.c3, .slice s1.A4 d1.limit.length s1.c4, .int .i64 d1.epoch] 63))
        obtain ⟨wa, hwa⟩ : ∃ wa, wo.alloc (.cells #[.slice s1.A0 d1.ins.length s1.c0, .slice s1.A1 d1.clocks.length s1.c1, .slice s1.A2 d1.choices.length s1.c2, .slice s1.A3 d1.fuel.length s1.c3, .slice s1.A4 d1.limit.length s1.c4, .int .i64 d1.epoch] 63) = wa := ⟨_, rfl⟩
        obtain ⟨P, hP⟩ : ∃ P, wo.heap.size = P := ⟨_, rfl⟩
        rw [hwa] at LA RA BA
        rw [hP] at BA
        rw [hwa, hP]
        clear hwa hP ka LL u0 u1 u2 u3 u4 u5
        have u0 : wa.cell? ⟨P, 0, none⟩ = some (.slice s1.A0 d1.ins.length s1.c0) := (blk_cell BA.out 0).trans rfl
        have u1 : wa.cell? ⟨P, 1, none⟩ = some (.slice s1.A1 d1.clocks.length s1.c1) := (blk_cell BA.out 1).trans rfl
        have u2 : wa.cell? ⟨P, 2, none⟩ = some (.slice s1.A2 d1.choices.length s1.c2) := (blk_cell BA.out 2).trans rfl
        have u3 : wa.cell? ⟨P, 3, none⟩ = some (.slice s1.A3 d1.fuel.length s1.c3) := (blk_cell BA.out 3).trans rfl
        have u4 : wa.cell? ⟨P, 4, none⟩ = some (.slice s1.A4 d1.limit.length s1.c4) := (blk_cell BA.out 4).trans rfl
        have u5 : wa.cell? ⟨P, 5, none⟩ = some (.int .i64 d1.epoch) := (blk_cell BA.out 5).trans rfl
        go_wp2_with fail
        ((with_reducible refine (acc_world RA.out).mono ?_); rintro e wb ⟨rfl, hk1⟩)
        have LB := Lib.hid (LA.out.quiet hk1)
        have RB := Lib.hid (RA.out.since hk1)
        have BB := Lib.hid (blk_since BA.out hk1)
        clear hk1 LA RA BA u0 u1 u2 u3 u4 u5
        have u0 : wb.cell? ⟨P, 0, none⟩ = some (.slice s1.A0 d1.ins.length s1.c0) := (blk_cell BB.out 0).trans rfl
        have u1 : wb.cell? ⟨P, 1, none⟩ = some (.slice s1.A1 d1.clocks.length s1.c1) := (blk_cell BB.out 1).trans rfl
        have u2 : wb.cell? ⟨P, 2, none⟩ = some (.slice s1.A2 d1.choices.length s1.c2) := (blk_cell BB.out 2).trans rfl
        have u3 : wb.cell? ⟨P, 3, none⟩ = some (.slice s1.A3 d1.fuel.length s1.c3) := (blk_cell BB.out 3).trans rfl
        have u4 : wb.cell? ⟨P, 4, none⟩ = some (.slice s1.A4 d1.limit.length s1.c4) := (blk_cell BB.out 4).trans rfl
        have u5 : wb.cell? ⟨P, 5, none⟩ = some (.int .i64 d1.epoch) := (blk_cell BB.out 5).trans rfl
        go_wp2_with fail
        ((with_reducible refine (ref_world RB.out).mono ?_); rintro e wd ⟨rfl, hk2⟩)
        have LC := Lib.hid (LB.out.quiet hk2)
        clear hk2 LB RB BB u0 u1 u2 u3 u4 u5
        rw [RD.out]
        go_wp2_with fail
        exact ⟨⟨1, by omega, by go_num, LC⟩, by simp [intOf]⟩
      · have u0 : wo.cell? ⟨A, 6, none⟩ = some (.slice s2.A0 d2.ins.length s2.c0) := (blk_cell LL.out.blk 6).trans rfl
        have u1 : wo.cell? ⟨A, 7, none⟩ = some (.slice s2.A1 d2.clocks.length s2.c1) := (blk_cell LL.out.blk 7).trans rfl
        have u2 : wo.cell? ⟨A, 8, none⟩ = some (.slice s2.A2 d2.choices.length s2.c2) := (blk_cell LL.out.blk 8).trans rfl
        have u3 : wo.cell? ⟨A, 9, none⟩ = some (.slice s2.A3 d2.fuel.length s2.c3) := (blk_cell LL.out.blk 9).trans rfl
        have u4 : wo.cell? ⟨A, 10, none⟩ = some (.slice s2.A4 d2.limit.length s2.c4) := (blk_cell LL.out.blk 10).trans rfl
        have u5 : wo.cell? ⟨A, 11, none⟩ = some (.int .i64 d2.epoch) := (blk_cell LL.out.blk 11).trans rfl
        go_upto_region 7 with (fail)
        have ka := (Keep.refl (fun _ => False) wo).alloc' (.cells #[.slice s2.A0 d2.ins.length s2.c0, .slice s2.A1 d2.clocks.length s2.c1, .slice s2.A2 d2.choices.length s2.c2, .slice s2.A3 d2.fuel.length s2.c3, .slice s2.A4 d2.limit.length s2.c4, .int .i64 d2.epoch] 63)
        have LA := Lib.hid (LL.out.quiet (Since.of ka))
        have RA := Lib.hid ((LL.out.b).since (Since.of ka))
        have BA := Lib.hid (heap_alloc_new wo (.cells #[.slice s2.A0 d2.ins.length s2.c0, .slice s2.A1 d2.clocks.length s2.c1, .slice s2.A2 d2.choices.length s2.c2, .slice s2.A3 d2.fuel.length s2.c3, .slice s2.A4 d2.limit.length s2.c4, .int .i64 d2.epoch] 63))
        obtain ⟨wa, hwa⟩ : ∃ wa, wo.alloc (.cells #[.slice s2.A0 d2.ins.length s2.c0, .slice s2.A1 d2.clocks.length s2.c1, .slice s2.A2 d2.choices.length s2.c2, .slice s2.A3 d2.fuel.length s2.c3, .slice s2.A4 d2.limit.length s2.c4, .int .i64 d2.epoch] 63) = wa := ⟨_, rfl⟩
        obtain ⟨P, hP⟩ : ∃ P, wo.heap.size = P := ⟨_, rfl⟩
        rw [hwa] at LA RA BA
        rw [hP] at BA
        rw [hwa, hP]
        clear hwa hP ka LL u0 u1 u2 u3 u4 u5
        have u0 : wa.cell? ⟨P, 0, none⟩ = some (.slice s2.A0 d2.ins.length s2.c0) := (blk_cell BA.out 0).trans rfl
        have u1 : wa.cell? ⟨P, 1, none⟩ = some (.slice s2.A1 d2.clocks.length s2.c1) := (blk_cell BA.out 1).trans rfl
        have u2 : wa.cell? ⟨P, 2, none⟩ = some (.slice s2.A2 d2.choices.length s2.c2) := (blk_cell BA.out 2).trans rfl
        have u3 : wa.cell? ⟨P, 3, none⟩ = some (.slice s2.A3 d2.fuel.length s2.c3) := (blk_cell BA.out 3).trans rfl
        have u4 : wa.cell? ⟨P, 4, none⟩ = some (.slice s2.A4 d2.limit.length s2.c4) := (blk_cell BA.out 4).trans rfl
        have u5 : wa.cell? ⟨P, 5, none⟩ = some (.int .i64 d2.epoch) := (blk_cell BA.out 5).trans rfl
        go_wp2_with fail
        ((with_reducible refine (acc_world RA.out).mono ?_); rintro e wb ⟨rfl, hk1⟩)
        have LB := Lib.hid (LA.out.quiet hk1)
        have RB := Lib.hid (RA.out.since hk1)
        have BB := Lib.hid (blk_since BA.out hk1)
        clear hk1 LA RA BA u0 u1 u2 u3 u4 u5
        have u0 : wb.cell? ⟨P, 0, none⟩ = some (.slice s2.A0 d2.ins.length s2.c0) := (blk_cell BB.out 0).trans rfl
        have u1 : wb.cell? ⟨P, 1, none⟩ = some (.slice s2.A1 d2.clocks.length s2.c1) := (blk_cell BB.out 1).trans rfl
        have u2 : wb.cell? ⟨P, 2, none⟩ = some (.slice s2.A2 d2.choices.length s2.c2) := (blk_cell BB.out 2).trans rfl
        have u3 : wb.cell? ⟨P, 3, none⟩ = some (.slice s2.A3 d2.fuel.length s2.c3) := (blk_cell BB.out 3).trans rfl
        have u4 : wb.cell? ⟨P, 4, none⟩ = some (.slice s2.A4 d2.limit.length s2.c4) := (blk_cell BB.out 4).trans rfl
        have u5 : wb.cell? ⟨P, 5, none⟩ = some (.int .i64 d2.epoch) := (blk_cell BB.out 5).trans rfl
        go_wp2_with fail
        ((with_reducible refine (ref_world RB.out).mono ?_); rintro e wd ⟨rfl, hk2⟩)
        have LC := Lib.hid (LB.out.quiet hk2)
        clear hk2 LB RB BB u0 u1 u2 u3 u4 u5
        cases d2.right with
        | false =>
          go_wp2_with fail
          exact ⟨⟨2, by omega, by go_num, LC⟩, by simp [intOf]⟩
        | true =>
          go_wp2_with fail
          exact ⟨⟨2, by omega, by go_num, LC⟩, by simp [intOf]⟩
      · have u0 : wo.cell? ⟨A, 12, none⟩ = some (.slice s3.A0 d3.ins.length s3.c0) := (blk_cell LL.out.blk 12).trans rfl
        have u1 : wo.cell? ⟨A, 13, none⟩ = some (.slice s3.A1 d3.clocks.length s3.c1) := (blk_cell LL.out.blk 13).trans rfl
        have u2 : wo.cell? ⟨A, 14, none⟩ = some (.slice s3.A2 d3.choices.length s3.c2) := (blk_cell LL.out.blk 14).trans rfl
        have u3 : wo.cell? ⟨A, 15, none⟩ = some (.slice s3.A3 d3.fuel.length s3.c3) := (blk_cell LL.out.blk 15).trans rfl
        have u4 : wo.cell? ⟨A, 16, none⟩ = some (.slice s3.A4 d3.limit.length s3.c4) := (blk_cell LL.out.blk 16).trans rfl
        have u5 : wo.cell? ⟨A, 17, none⟩ = some (.int .i64 d3.epoch) := (blk_cell LL.out.blk 17).trans rfl
        go_upto_region 7 with (fail)
        have ka := (Keep.refl (fun _ => False) wo).alloc' (.cells #[.slice s3.A0 d3.ins.length s3.c0, .slice s3.A1 d3.clocks.length s3.c1, .slice s3.A2 d3.choices.length s3.c2, .slice s3.A3 d3.fuel.length s3.c3, .slice s3.A4 d3.limit.length s3.c4, .int .i64 d3.epoch] 63)
        have LA := Lib.hid (LL.out.quiet (Since.of ka))
        have RA := Lib.hid ((LL.out.c).since (Since.of ka))
        have BA := Lib.hid (heap_alloc_new wo (.cells #[.slice s3.A0 d3.ins.length s3.c0, .slice s3.A1 d3.clocks.length s3.c1, .slice s3.A2 d3.choices.length s3.c2, .slice s3.A3 d3.fuel.length s3.c3, .slice s3.A4 d3.limit.length s3.c4, .int .i64 d3.epoch] 63))
        obtain ⟨wa, hwa⟩ : ∃ wa, wo.alloc (.cells #[.slice s3.A0 d3.ins.length s3.c0, .slice s3.A1 d3.clocks.length s3.c1, .slice s3.A2 d3.choices.length s3.c2, .slice s3.A3 d3.fuel.length s3.c3, .slice s3.A4 d3.limit.length s3.c4, .int .i64 d3.epoch] 63) = wa := ⟨_, rfl⟩
        obtain ⟨P, hP⟩ : ∃ P, wo.heap.size = P := ⟨_, rfl⟩
        rw [hwa] at LA RA BA
        rw [hP] at BA
        rw [hwa, hP]
        clear hwa hP ka LL u0 u1 u2 u3 u4 u5
        have u0 : wa.cell? ⟨P, 0, none⟩ = some (.slice s3.A0 d3.ins.length s3.c0) := (blk_cell BA.out 0).trans rfl
        have u1 : wa.cell? ⟨P, 1, none⟩ = some (.slice s3.A1 d3.clocks.length s3.c1) := (blk_cell BA.out 1).trans rfl
        have u2 : wa.cell? ⟨P, 2, none⟩ = some (.slice s3.A2 d3.choices.length s3.c2) := (blk_cell BA.out 2).trans rfl
        have u3 : wa.cell? ⟨P, 3, none⟩ = some (.slice s3.A3 d3.fuel.length s3.c3) := (blk_cell BA.out 3).trans rfl
        have u4 : wa.cell? ⟨P, 4, none⟩ = some (.slice s3.A4 d3.limit.length s3.c4) := (blk_cell BA.out 4).trans rfl
        have u5 : wa.cell? ⟨P, 5, none⟩ = some (.int .i64 d3.epoch) := (blk_cell BA.out 5).trans rfl
        go_wp2_with fail
        ((with_reducible refine (acc_world RA.out).mono ?_); rintro e wb ⟨rfl, hk1⟩)
        have LB := Lib.hid (LA.out.quiet hk1)
        have RB := Lib.hid (RA.out.since hk1)
        have BB := Lib.hid (blk_since BA.out hk1)
        clear hk1 LA RA BA u0 u1 u2 u3 u4 u5
        have u0 : wb.cell? ⟨P, 0, none⟩ = some (.slice s3.A0 d3.ins.length s3.c0) := (blk_cell BB.out 0).trans rfl
        have u1 : wb.cell? ⟨P, 1, none⟩ = some (.slice s3.A1 d3.clocks.length s3.c1) := (blk_cell BB.out 1).trans rfl
        have u2 : wb.cell? ⟨P, 2, none⟩ = some (.slice s3.A2 d3.choices.length s3.c2) := (blk_cell BB.out 2).trans rfl
        have u3 : wb.cell? ⟨P, 3, none⟩ = some (.slice s3.A3 d3.fuel.length s3.c3) := (blk_cell BB.out 3).trans rfl
        have u4 : wb.cell? ⟨P, 4, none⟩ = some (.slice s3.A4 d3.limit.length s3.c4) := (blk_cell BB.out 4).trans rfl
        have u5 : wb.cell? ⟨P, 5, none⟩ = some (.int .i64 d3.epoch) := (blk_cell BB.out 5).trans rfl
        go_wp2_with fail
        ((with_reducible refine (ref_world RB.out).mono ?_); rintro e wd ⟨rfl, hk2⟩)
        have LC := Lib.hid (LB.out.quiet hk2)
        clear hk2 LB RB BB u0 u1 u2 u3 u4 u5
        cases d3.right with
        | false =>
          go_wp2_with fail
          exact ⟨⟨3, by omega, by go_num, LC⟩, by simp [intOf]⟩
        | true =>
          go_wp2_with fail
          exact ⟨⟨3, by omega, by go_num, LC⟩, by simp [intOf]⟩
      · have u0 : wo.cell? ⟨A, 18, none⟩ = some (.slice none 0 0) := (blk_cell LL.out.blk 18).trans rfl
        have u1 : wo.cell? ⟨A, 19, none⟩ = some (.slice none 0 0) := (blk_cell LL.out.blk 19).trans rfl
        have u2 : wo.cell? ⟨A, 20, none⟩ = some (.slice none 0 0) := (blk_cell LL.out.blk 20).trans rfl
        have u3 : wo.cell? ⟨A, 21, none⟩ = some (.slice none 0 0) := (blk_cell LL.out.blk 21).trans rfl
        have u4 : wo.cell? ⟨A, 22, none⟩ = some (.slice none 0 0) := (blk_cell LL.out.blk 22).trans rfl
        have u5 : wo.cell? ⟨A, 23, none⟩ = some (.int .i64 0) := (blk_cell LL.out.blk 23).trans rfl
        go_upto_region 7 with (fail)
        have ka := (Keep.refl (fun _ => False) wo).alloc' (.cells #[.slice none 0 0, .slice none 0 0, .slice none 0 0, .slice none 0 0, .slice none 0 0, .int .i64 0] 63)
        have LA := Lib.hid (LL.out.quiet (Since.of ka))
        have RA := Lib.hid ((wr_zero wo).since (Since.of ka))
        have BA := Lib.hid (heap_alloc_new wo (.cells #[.slice none 0 0, .slice none 0 0, .slice none 0 0, .slice none 0 0, .slice none 0 0, .int .i64 0] 63))
        obtain ⟨wa, hwa⟩ : ∃ wa, wo.alloc (.cells #[.slice none 0 0, .slice none 0 0, .slice none 0 0, .slice none 0 0, .slice none 0 0, .int .i64 0] 63) = wa := ⟨_, rfl⟩
        obtain ⟨P, hP⟩ : ∃ P, wo.heap.size = P := ⟨_, rfl⟩
        rw [hwa] at LA RA BA
        rw [hP] at BA
        rw [hwa, hP]
        clear hwa hP ka LL u0 u1 u2 u3 u4 u5
        have u0 : wa.cell? ⟨P, 0, none⟩ = some (.slice none 0 0) := (blk_cell BA.out 0).trans rfl
        have u1 : wa.cell? ⟨P, 1, none⟩ = some (.slice none 0 0) := (blk_cell BA.out 1).trans rfl
        have u2 : wa.cell? ⟨P, 2, none⟩ = some (.slice none 0 0) := (blk_cell BA.out 2).trans rfl
        have u3 : wa.cell? ⟨P, 3, none⟩ = some (.slice none 0 0) := (blk_cell BA.out 3).trans rfl
        have u4 : wa.cell? ⟨P, 4, none⟩ = some (.slice none 0 0) := (blk_cell BA.out 4).trans rfl
        have u5 : wa.cell? ⟨P, 5, none⟩ = some (.int .i64 0) := (blk_cell BA.out 5).trans rfl
        go_wp2_with fail
        (refine (acc_world RA.out).mono ?_; rintro e wb ⟨rfl, hk1⟩)
        have LB := Lib.hid (LA.out.quiet hk1)
        have RB := Lib.hid (RA.out.since hk1)
        have BB := Lib.hid (blk_since BA.out hk1)
        clear hk1 LA RA BA u0 u1 u2 u3 u4 u5
        have u0 : wb.cell? ⟨P, 0, none⟩ = some (.slice none 0 0) := (blk_cell BB.out 0).trans rfl
        have u1 : wb.cell? ⟨P, 1, none⟩ = some (.slice none 0 0) := (blk_cell BB.out 1).trans rfl
        have u2 : wb.cell? ⟨P, 2, none⟩ = some (.slice none 0 0) := (blk_cell BB.out 2).trans rfl
        have u3 : wb.cell? ⟨P, 3, none⟩ = some (.slice none 0 0) := (blk_cell BB.out 3).trans rfl
        have u4 : wb.cell? ⟨P, 4, none⟩ = some (.slice none 0 0) := (blk_cell BB.out 4).trans rfl
        have u5 : wb.cell? ⟨P, 5, none⟩ = some (.int .i64 0) := (blk_cell BB.out 5).trans rfl
        go_wp2_with fail
        (refine (ref_world RB.out).mono ?_; rintro e wd ⟨rfl, hk2⟩)
        have LC := Lib.hid (LB.out.quiet hk2)
        clear hk2 LB RB BB u0 u1 u2 u3 u4 u5
        rw [right_zero]
        go_wp2_with fail
        exact ⟨⟨4, by omega, by go_num, LC⟩, by simp [intOf]⟩
    · obtain rfl : k = 4 := by omega
      go_wp2_with fail
      go_ret
      exact ⟨rfl, below_since LL.out.since rfl⟩
set_option maxRecDepth 100000 in
theorem worlds_lifted (os : Os) (started : os.Started) (H : Type) (enc : TypeId × Value → H) :
    ReturnsInHanded {} Try.checked os 10 .any (Rows.accountWorldsSpec.pre6 enc Try.prog Try.f10 Rows.accountWorldsRow.domain false) (Rows.accountWorldsSpec.post enc Try.prog Try.f10 false true false false) := by
  refine law_lift (C := Try.checked) Try.own started (by kernel_rfl) Try.func10
    (ChangeSpec.witness6 (enc := enc) (C := Try.checked) false ⟨#[], #[.slice none 0 0, .agg #[.int .i64 0, .int .i64 0, .int .i64 0, .int .i64 0, .int .i64 0, .int .i64 0]], []⟩ 8 (by kernel_rfl) (by kernel_rfl) (by kernel_rfl) (by kernel_rfl))
    Try.laidOut (by kernel_rfl) rfl rfl Try.underlying4 ?_ ?_
  · intro ds hl
    match ds, hl with
    | [d1, d2], _ => exact ⟨rfl, rfl, rfl⟩
  · intro W base args ds p hval0 hA0 hlt hsz0
    have hval : ∀ (j : Nat) t v, Try.f10.params[j]? = some t → args[j]? = some v → Value.okWide Try.prog W .any base t v := hval0
    have hA : DataW.TrodAll enc Try.prog W 0 (fun _ => true) true Try.f10.params.toList args.toList ds p := hA0
    have hsz : (DataW.weightsEach Try.prog Try.f10.params.toList ds).all (· ≤ reachBytes) = true := hsz0
    rw [Try.params10] at hA hval hsz
    clear hA0 hval0 hsz0
    obtain ⟨v0, v1, d0, d1, p0, p1, rfl, rfl, rfl, h0, h1⟩ := trodAll_two hA
    have hlt0 : ∀ x ∈ p0, x.block < W.heap.size := fun x hx => hlt x (by simp [hx])
    obtain ⟨A, n, c, xs, rfl, i0, z0, r0, w0⟩ := open_ints_at Try.underlying22 Try.underlying3 (by kernel_rfl) (by kernel_rfl) (hval 0 22 v0 rfl rfl) h0 hlt0 (fun el sp hd => sized_slice hsz (j := 0) rfl (by simp [hd]) Try.underlying22)
    obtain ⟨a, b, c', x, y, z, rfl⟩ := open_grid Try.underlying61 Try.underlying60 Try.underlying3 (by kernel_rfl) (by kernel_rfl) (by kernel_rfl) (hval 1 61 v1 rfl rfl) h1
    exact worlds_walk A n c xs a b c' x y z W i0 (by omega)

/-- The statement. -/
theorem worlds_holds : Rows.AccountWorldsSaid :=
  OpenClaim.holds_of_wide 10 Try.f10 rfl rfl rfl rfl rfl rfl rfl ⟨rfl, rfl, rfl, rfl, rfl⟩ rfl rfl rfl rfl rfl (by kernel_rfl) Try.func10 (by kernel_rfl)
    (of_decide_eq_true (by kernel_rfl)) (by unfold Func.isWrapper; first | (rw [if_pos (by decide +kernel)]; kernel_rfl) | (rw [if_neg (by decide +kernel)]; exact ⟨rfl, rfl⟩))
    (fun os started H enc _ => worlds_lifted os started H enc)
#print axioms worlds_holds
end Go.Proofs.Ytbbeoeoengogpaa
