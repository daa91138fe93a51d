/- facsimileref04: a value that numbers determine. -/
import Derived.Test.YtbbeoeoengogpaaU0
import Derived.Laws.Rows
import Derived.Handy
namespace Go.Proofs.Ytbbeoeoengogpaa
open Go.RowKit
set_option linter.unusedVariables false

theorem five_cases {r : Int} (h : 0 ≤ r ∧ r < 9) : r = 0 ∨ r = 1 ∨ r = 2 ∨ r = 3 ∨ r = 4 ∨ ((r == 0) = false ∧ (r == 1) = false ∧ (r == 2) = false ∧ (r == 3) = false ∧ (r == 4) = false) := by
  by_cases h0 : r = 0
  · exact .inl h0
  by_cases h1 : r = 1
  · exact .inr (.inl h1)
  by_cases h2 : r = 2
  · exact .inr (.inr (.inl h2))
  by_cases h3 : r = 3
  · exact .inr (.inr (.inr (.inl h3)))
  by_cases h4 : r = 4
  · exact .inr (.inr (.inr (.inr (.inl h4))))
  exact .inr (.inr (.inr (.inr (.inr ⟨by simpa using h0, by simpa using h1, by simpa using h2, by simpa using h3, by simpa using h4⟩))))
structure VB (n0 : Nat) (w : World) (p B : Nat) (W : World) : Prop where
  nu : NU n0 W p
  blk : W.heap[B]? = some (.cells #[.int .i64 0, .int .i64 0, .string ⟨#[]⟩] 75 (0, 0))
  keep : Keep (fun k => k = p) w W
  ne : B ≠ p
  new : w.heap.size ≤ B
  low : n0 ≤ B
theorem VB.next {n0 p B : Nat} {w W W' : World} (h : VB n0 w p B W) (hn : NU n0 W' p) (hk : Keep (fun k => k = p) W W') : VB n0 w p B W' :=
  ⟨hn, (hk.block B (blk_lt h.blk) h.ne).trans h.blk, Keep.trans h.keep hk, h.ne, h.new, h.low⟩
theorem VB.quiet {n0 p B : Nat} {w W W' : World} (h : VB n0 w p B W) (hk : Keep (fun _ => False) W W') : VB n0 w p B W' :=
  h.next (h.nu.keep hk id (fun _ => False.elim)) (Keep.mono hk (fun _ => False.elim))
theorem VB.cells {n0 p B : Nat} {w W : World} (h : VB n0 w p B W) : W.cell? ⟨B, 0, none⟩ = some (.int .i64 0) ∧ W.cell? ⟨B, 1, none⟩ = some (.int .i64 0) ∧ W.cell? ⟨B, 2, none⟩ = some (.string ⟨#[]⟩) ∧ W.frozen? ⟨B, 0, none⟩ = false ∧ W.frozen? ⟨B, 1, none⟩ = false ∧ W.frozen? ⟨B, 2, none⟩ = false :=
  ⟨by rw [blk_cell h.blk]; rfl, by rw [blk_cell h.blk]; rfl, by rw [blk_cell h.blk]; rfl, blk_free h.blk 0, blk_free h.blk 1, blk_free h.blk 2⟩
theorem vb_ret {n0 p B : Nat} {w W : World} (h : VB n0 w p B W) (a b : Int) (s : ByteArray) (hab : a = 5 → 0 ≤ b) (tmps : Array Value) (ht : tmps.getD 4 undef = .pointer (some ⟨B, 0, none⟩)) :
    bodyPost Try.prog Try.f46 (fun e w' => ∃ (a b : Int) (s : ByteArray), e = .returned (.agg #[.int .i64 a, .int .i64 b, .string s]) ∧ (a = 5 → 0 ≤ b) ∧ NU n0 w' p ∧ Keep (fun k => k = p) w w') Exit.ret { tmps := tmps, defers := [] }
      (((W.setCell ⟨B, 0, none⟩ (.int .i64 a)).setCell ⟨B, 1, none⟩ (.int .i64 b)).setCell ⟨B, 2, none⟩ (.string s)) := by
  have hb := blk_set (blk_set (blk_set h.blk 0 (.int .i64 a)) 1 (.int .i64 b)) 2 (.string s)
  have hk : Keep (fun k => k = B) W (((W.setCell ⟨B, 0, none⟩ (.int .i64 a)).setCell ⟨B, 1, none⟩ (.int .i64 b)).setCell ⟨B, 2, none⟩ (.string s)) := keep_set (keep_set (keep_set (Keep.refl _ W) _ _) _ _) _ _
  refine bodyPost_ret (results_cell_row rfl _ _ B _ _ _ _ ht hb Try.underlying75 rfl (by kernel_rfl)) rfl ?_
  refine ⟨a, b, s, rfl, hab, h.nu.keep hk (fun e => h.ne e.symm) (fun k e => ?_), ?_⟩
  · subst e; exact h.low
  · exact ((h.keep.setCell (a := ⟨B, 0, none⟩) (.inr h.new) _).setCell (a := ⟨B, 1, none⟩) (.inr h.new) _).setCell (a := ⟨B, 2, none⟩) (.inr h.new) _
set_option maxHeartbeats 4000000 in
theorem value_any {n0 p : Nat} {w : World} (h : NU n0 w p) (n : Int) (hn : 0 ≤ n ∧ n ≤ 1000000) :
    Calls Try.prog 46 #[.pointer (some ⟨p, 0, none⟩), .int .i64 n] w fun e w' => ∃ (a b : Int) (s : ByteArray), e = .returned (.agg #[.int .i64 a, .int .i64 b, .string s]) ∧ (a = 5 → 0 ≤ b) ∧ NU n0 w' p ∧ Keep (fun k => k = p) w w' := by
  have H := Lib.hid h
  have hpl := h.lt
  have hnp := h.base
  clear h
  go_enter Try.func46, Try.ntmps46
  go_wp2_with fail
  have V0 := Lib.hid (show VB n0 w p w.heap.size (w.alloc (.cells #[.int .i64 0, .int .i64 0, .string ⟨#[]⟩] 75)) from
    ⟨H.out.keep ((Keep.refl (fun _ => False) w).alloc' _) id (fun _ => False.elim), heap_alloc_new _ _, Keep.mono ((Keep.refl (fun _ => False) w).alloc' _) (fun _ => False.elim), by omega, Nat.le_refl _, by omega⟩)
  obtain ⟨B, hB⟩ : ∃ B, w.heap.size = B := ⟨_, rfl⟩
  obtain ⟨W0, hW⟩ : ∃ W0, w.alloc (.cells #[.int .i64 0, .int .i64 0, .string ⟨#[]⟩] 75) = W0 := ⟨_, rfl⟩
  rw [hW, hB] at V0
  rw [hW, hB]
  clear hW hB hpl
  ((with_reducible refine (next_any V0.out.nu 9 (by omega)).mono ?_); rintro e w1 ⟨r, rfl, hr, hN, hk⟩)
  have V1 := Lib.hid (V0.out.next hN hk)
  clear hN hk V0
  rcases five_cases hr with rfl | rfl | rfl | rfl | rfl | ⟨g0, g1, g2, g3, g4⟩
  · obtain ⟨c0, c1, c2, f0, f1, f2⟩ := V1.out.cells
    go_wp2_with fail
    exact vb_ret V1.out 1 0 _ (by decide) _ rfl
  · go_wp2_with fail
    ((with_reducible refine (next_any V1.out.nu 2 (by omega)).mono ?_); rintro e w2 ⟨r, rfl, hr2, hN, hk⟩)
    have V2 := Lib.hid (V1.out.next hN hk)
    clear hN hk V1
    obtain ⟨c0, c1, c2, f0, f1, f2⟩ := V2.out.cells
    go_wp2_with fail
    exact vb_ret V2.out 2 r _ (fun e => absurd e (by decide)) _ rfl
  · go_wp2_with fail
    ((with_reducible refine (next_any V1.out.nu 9 (by omega)).mono ?_); rintro e w2 ⟨r, rfl, hr2, hN, hk⟩)
    have V2 := Lib.hid (V1.out.next hN hk)
    clear hN hk V1
    obtain ⟨c0, c1, c2, f0, f1, f2⟩ := V2.out.cells
    go_wp2_with fail
    exact vb_ret V2.out 3 (r - 2) _ (fun e => absurd e (by decide)) _ rfl
  · go_wp2_with fail
    ((with_reducible refine (next_any V1.out.nu 9 (by omega)).mono ?_); rintro e w2 ⟨r, rfl, hr2, hN, hk⟩)
    have V2 := Lib.hid (V1.out.next hN hk)
    clear hN hk V1
    obtain ⟨c0, c1, c2, f0, f1, f2⟩ := V2.out.cells
    go_wp2_with fail
    exact vb_ret V2.out 3 (r - 2) _ (fun e => absurd e (by decide)) _ rfl
  · go_wp2_with fail
    have hka := (Keep.refl (fun _ => False) w1).alloc' (.cells #[.string ⟨#[]⟩, .string ⟨#[97]⟩, .string ⟨#[98, 32, 99]⟩, .string ⟨#[116, 121, 112, 101]⟩] 9)
    have hbl := heap_alloc_new w1 (.cells #[.string ⟨#[]⟩, .string ⟨#[97]⟩, .string ⟨#[98, 32, 99]⟩, .string ⟨#[116, 121, 112, 101]⟩] 9)
    have V2 := Lib.hid (V1.out.quiet hka)
    obtain ⟨C, hC⟩ : ∃ C, w1.heap.size = C := ⟨_, rfl⟩
    obtain ⟨W2, hW⟩ : ∃ W2, w1.alloc (.cells #[.string ⟨#[]⟩, .string ⟨#[97]⟩, .string ⟨#[98, 32, 99]⟩, .string ⟨#[116, 121, 112, 101]⟩] 9) = W2 := ⟨_, rfl⟩
    have hCp : C ≠ p := by have := V1.out.nu.lt; omega
    rw [hW, hC] at hbl
    rw [hW] at V2
    rw [hW, hC]
    clear hW hC hka V1
    ((with_reducible refine (next_any V2.out.nu 4 (by omega)).mono ?_); rintro e w2 ⟨r, rfl, hr2, hN, hk⟩)
    have hbl := (hk.block C (blk_lt hbl) hCp).trans hbl
    have V3 := Lib.hid (V2.out.next hN hk)
    clear hN hk V2
    obtain ⟨c0, c1, c2, f0, f1, f2⟩ := V3.out.cells
    have hx := fun i => blk_cell hbl i
    obtain ⟨i, hi⟩ := Int.eq_ofNat_of_zero_le hr2.1
    subst hi
    have hi4 : i < 4 := by omega
    have hri : ∃ s, w2.cell? ⟨C, i, none⟩ = some (.string s) := by
      rw [hx i]
      rcases i with _ | _ | _ | _ | i
      · exact ⟨_, rfl⟩
      · exact ⟨_, rfl⟩
      · exact ⟨_, rfl⟩
      · exact ⟨_, rfl⟩
      · omega
    obtain ⟨s, hs⟩ := hri
    clear hx hbl
    go_wp2_with fail
    exact vb_ret V3.out 4 0 s (by decide) _ rfl
  · by_cases h1 : n < 1
    · have hb : decide (n < 1) = true := by simpa using h1
      obtain ⟨c0, c1, c2, f0, f1, f2⟩ := V1.out.cells
      go_wp2_with fail
      exact vb_ret V1.out 1 0 _ (by decide) _ rfl
    · have hb : decide (n < 1) = false := by simpa using h1
      go_wp2_with fail
      ((with_reducible refine (next_any V1.out.nu n (by omega)).mono ?_); rintro e w2 ⟨r2, rfl, hr2, hN, hk⟩)
      have V2 := Lib.hid (V1.out.next hN hk)
      clear hN hk V1
      obtain ⟨c0, c1, c2, f0, f1, f2⟩ := V2.out.cells
      go_wp2_with fail
      exact vb_ret V2.out 5 r2 _ (fun _ => hr2.1) _ rfl
end Go.Proofs.Ytbbeoeoengogpaa
