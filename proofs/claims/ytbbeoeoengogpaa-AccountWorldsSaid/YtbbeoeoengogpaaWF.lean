/- facsimileref01.Const: a right value that a number determines. -/
import Derived.Test.YtbbeoeoengogpaaWC
import Derived.Laws.Rows
namespace Go.Proofs.Ytbbeoeoengogpaa
open Go.RowKit Go.Lib
set_option linter.unusedVariables false

theorem const_ret {w W : World} {B : Nat} (hb : W.heap[B]? = some (.cells #[.int .i64 0, .int .i64 0, .string ⟨#[]⟩] 75 (0, 0))) (hk : Keep (fun _ => False) w W) (hB : w.heap.size ≤ B) (v : Val) (hp : PL v = true) (hs : PlainS v.s) (tmps : Array Value) (ht : tmps.getD 2 undef = .pointer (some ⟨B, 0, none⟩)) :
    bodyPost Try.prog Try.f36 (fun e w' => ∃ v : Val, e = .returned (.agg #[.int .i64 v.a, .int .i64 v.b, .string v.s]) ∧ PL v = true ∧ PlainS v.s ∧ Keep (fun _ => False) w w') Exit.ret { tmps := tmps, defers := [] }
      (((W.setCell ⟨B, 0, none⟩ (.int .i64 v.a)).setCell ⟨B, 1, none⟩ (.int .i64 v.b)).setCell ⟨B, 2, none⟩ (.string v.s)) := by
  have hb2 := blk_set (blk_set (blk_set hb 0 (.int .i64 v.a)) 1 (.int .i64 v.b)) 2 (.string v.s)
  refine bodyPost_ret (results_cell_row rfl _ _ B _ _ _ _ ht hb2 Try.underlying75 rfl (by kernel_rfl)) rfl ?_
  exact ⟨v, rfl, hp, hs, ((hk.setCell (a := ⟨B, 0, none⟩) (.inr hB) _).setCell (a := ⟨B, 1, none⟩) (.inr hB) _).setCell (a := ⟨B, 2, none⟩) (.inr hB) _⟩
theorem pl_int {b : Int} (h : -1000000000000000 ≤ b ∧ b ≤ 1000000000000000) : PL ⟨3, b, ⟨#[]⟩⟩ = true := by
  have h1 : decide (-1000000000000000 ≤ b) = true := by simpa using h.1
  have h2 : decide (b ≤ 1000000000000000) = true := by simpa using h.2
  show ((decide (-1000000000000000 ≤ b) && decide (b ≤ 1000000000000000)) && _) = true
  rw [h1, h2]
  rfl
theorem plain_empty : PlainS ⟨#[]⟩ := plainS_of (l := []) rfl
theorem seven_cases {r : Int} (h : 0 ≤ r ∧ r < 7) : r = 0 ∨ r = 1 ∨ r = 2 ∨ r = 3 ∨ r = 4 ∨ r = 5 ∨ r = 6 := by omega
set_option maxHeartbeats 4000000 in
theorem const_any (n : Int) (hn : 0 ≤ n ∧ n < 1000) (w : World) : Calls Try.prog 36 #[.int .i64 n] w fun e w' => ∃ v : Val, e = .returned (.agg #[.int .i64 v.a, .int .i64 v.b, .string v.s]) ∧ PL v = true ∧ PlainS v.s ∧ Keep (fun _ => False) w w' := by
  obtain ⟨r, hr, hM⟩ := mod1_any n 7 (by omega)
  have HM := Lib.hid hM
  have hka := (Keep.refl (fun _ => False) w).alloc' (.cells #[.int .i64 0, .int .i64 0, .string ⟨#[]⟩] 75)
  have hbl := heap_alloc_new w (.cells #[.int .i64 0, .int .i64 0, .string ⟨#[]⟩] 75)
  obtain ⟨B, hB⟩ : ∃ B, w.heap.size = B := ⟨_, rfl⟩
  obtain ⟨W0, hW⟩ : ∃ W0, w.alloc (.cells #[.int .i64 0, .int .i64 0, .string ⟨#[]⟩] 75) = W0 := ⟨_, rfl⟩
  have HW := Lib.hid (And.intro hW hB)
  rw [hW] at hka
  rw [hW, hB] at hbl
  have HB := Lib.hid hbl
  have HK := Lib.hid hka
  have HL := Lib.hid (show w.heap.size ≤ B by omega)
  clear hM hW hB hka hbl
  have c0 : W0.cell? ⟨B, 0, none⟩ = some (.int .i64 0) := by rw [blk_cell HB.out]; rfl
  have c1 : W0.cell? ⟨B, 1, none⟩ = some (.int .i64 0) := by rw [blk_cell HB.out]; rfl
  have c2 : W0.cell? ⟨B, 2, none⟩ = some (.string ⟨#[]⟩) := by rw [blk_cell HB.out]; rfl
  have f0 := blk_free HB.out 0
  have f1 := blk_free HB.out 1
  have f2 := blk_free HB.out 2
  go_enter Try.func36, Try.ntmps36
  go_wp2_with fail
  rw [HW.out.1, HW.out.2]
  ((with_reducible refine (HM.out _).mono ?_); rintro e w' ⟨rfl, rfl⟩)
  rcases seven_cases hr with rfl | rfl | rfl | rfl | rfl | rfl | rfl
  · go_wp2_with fail
    exact const_ret HB.out HK.out HL.out ⟨1, 0, ⟨#[]⟩⟩ rfl plain_empty _ rfl
  · go_wp2_with fail
    ((with_reducible refine (HM.out _).mono ?_); rintro e w' ⟨rfl, rfl⟩)
    go_wp2_with fail
    exact const_ret HB.out HK.out HL.out ⟨2, 0, ⟨#[]⟩⟩ rfl plain_empty _ rfl
  · go_wp2_with fail
    ((with_reducible refine (HM.out _).mono ?_); rintro e w' ⟨rfl, rfl⟩)
    go_wp2_with fail
    exact const_ret HB.out HK.out HL.out ⟨2, 1, ⟨#[]⟩⟩ rfl plain_empty _ rfl
  · have h1 : 0 ≤ n.tmod 1000 := Int.tmod_nonneg _ hn.1
    have h2 : n.tmod 1000 < 1000 := Int.tmod_lt_of_pos _ (by omega)
    obtain ⟨x, hx⟩ : ∃ x, n.tmod 1000 = x := ⟨_, rfl⟩
    rw [hx] at h1 h2
    go_wp2_with fail
    exact const_ret HB.out HK.out HL.out ⟨3, x, ⟨#[]⟩⟩ (pl_int (by omega)) plain_empty _ rfl
  · obtain ⟨q, hq, hM2⟩ := mod1_any (n / 7) 3 (by omega)
    have HM2 := Lib.hid hM2
    obtain ⟨i, rfl⟩ := Int.eq_ofNat_of_zero_le hq.1
    have hi : i < 3 := by omega
    have hk1 := (Keep.refl (fun _ => False) W0).alloc' (.cells #[.int .i64 1000000000000000, .int .i64 (-1000000000000000), .int .i64 0] 3)
    have hb1 := heap_alloc_new W0 (.cells #[.int .i64 1000000000000000, .int .i64 (-1000000000000000), .int .i64 0] 3)
    have hx := blk_cell hb1 i
    have hri : ∃ x : Int, (-1000000000000000 ≤ x ∧ x ≤ 1000000000000000) ∧ (W0.alloc (.cells #[.int .i64 1000000000000000, .int .i64 (-1000000000000000), .int .i64 0] 3)).cell? ⟨W0.heap.size, i, none⟩ = some (.int .i64 x) := by
      rw [hx]
      rcases i with _ | _ | _ | i
      · exact ⟨_, by omega, rfl⟩
      · exact ⟨_, by omega, rfl⟩
      · exact ⟨_, by omega, rfl⟩
      · omega
    have d0 := cell_kept hk1 c0 id
    have d1 := cell_kept hk1 c1 id
    have d2 := cell_kept hk1 c2 id
    have hbB := (hk1.block B (blk_lt HB.out) id).trans HB.out
    have g0 := blk_free hbB 0
    have g1 := blk_free hbB 1
    have g2 := blk_free hbB 2
    have HBB := Lib.hid (And.intro hbB (Keep.trans HK.out hk1))
    clear hx hb1 hk1 hbB hM2
    go_wp2_with fail
    ((with_reducible refine (HM2.out _).mono ?_); rintro e w' ⟨rfl, rfl⟩)
    obtain ⟨x, hx, hc⟩ := hri
    go_wp2_with fail
    exact const_ret HBB.out.1 HBB.out.2 HL.out ⟨3, x, ⟨#[]⟩⟩ (pl_int hx) plain_empty _ rfl
  · obtain ⟨q, hq, hM2⟩ := mod1_any (n / 7) 6 (by omega)
    have HM2 := Lib.hid hM2
    obtain ⟨i, rfl⟩ := Int.eq_ofNat_of_zero_le hq.1
    have hi : i < 6 := by omega
    have hk1 := (Keep.refl (fun _ => False) W0).alloc' (.cells #[.string ⟨#[]⟩, .string ⟨#[105, 116, 39, 115]⟩, .string ⟨#[39, 39]⟩, .string ⟨#[120, 32, 61, 32, 121]⟩, .string ⟨#[32]⟩, .string ⟨#[97, 46, 98, 91, 99, 93]⟩] 9)
    have hb1 := heap_alloc_new W0 (.cells #[.string ⟨#[]⟩, .string ⟨#[105, 116, 39, 115]⟩, .string ⟨#[39, 39]⟩, .string ⟨#[120, 32, 61, 32, 121]⟩, .string ⟨#[32]⟩, .string ⟨#[97, 46, 98, 91, 99, 93]⟩] 9)
    have hx := blk_cell hb1 i
    have hri : ∃ s, PlainS s ∧ (W0.alloc (.cells #[.string ⟨#[]⟩, .string ⟨#[105, 116, 39, 115]⟩, .string ⟨#[39, 39]⟩, .string ⟨#[120, 32, 61, 32, 121]⟩, .string ⟨#[32]⟩, .string ⟨#[97, 46, 98, 91, 99, 93]⟩] 9)).cell? ⟨W0.heap.size, i, none⟩ = some (.string s) := by
      rw [hx]
      rcases i with _ | _ | _ | _ | _ | _ | i
      all_goals first | exact ⟨_, plainS_of (l := []) rfl, rfl⟩ | exact ⟨_, plainS_of (l := [105, 116, 39, 115]) rfl, rfl⟩ | exact ⟨_, plainS_of (l := [39, 39]) rfl, rfl⟩ | exact ⟨_, plainS_of (l := [120, 32, 61, 32, 121]) rfl, rfl⟩ | exact ⟨_, plainS_of (l := [32]) rfl, rfl⟩ | exact ⟨_, plainS_of (l := [97, 46, 98, 91, 99, 93]) rfl, rfl⟩ | omega
    have d0 := cell_kept hk1 c0 id
    have d1 := cell_kept hk1 c1 id
    have d2 := cell_kept hk1 c2 id
    have hbB := (hk1.block B (blk_lt HB.out) id).trans HB.out
    have g0 := blk_free hbB 0
    have g1 := blk_free hbB 1
    have g2 := blk_free hbB 2
    have HBB := Lib.hid (And.intro hbB (Keep.trans HK.out hk1))
    clear hx hb1 hk1 hbB hM2
    go_wp2_with fail
    ((with_reducible refine (HM2.out _).mono ?_); rintro e w' ⟨rfl, rfl⟩)
    obtain ⟨s, hs, hc⟩ := hri
    have HS := Lib.hid hs
    clear hs
    go_wp2_with fail
    exact const_ret HBB.out.1 HBB.out.2 HL.out ⟨4, 0, s⟩ rfl HS.out _ rfl
  · go_wp2_with fail
    ((with_reducible refine (word_any _ _).mono ?_); rintro e w' ⟨s, rfl, hs, hk⟩)
    have hbB := (hk.block B (blk_lt HB.out) id).trans HB.out
    have d0 := cell_kept hk c0 id
    have d1 := cell_kept hk c1 id
    have d2 := cell_kept hk c2 id
    have g0 := blk_free hbB 0
    have g1 := blk_free hbB 1
    have g2 := blk_free hbB 2
    have HBB := Lib.hid (And.intro hbB (Keep.trans HK.out hk))
    have HS := Lib.hid hs
    clear hbB hk hs
    go_wp2_with fail
    exact const_ret HBB.out.1 HBB.out.2 HL.out ⟨4, 0, s⟩ rfl HS.out _ rfl
end Go.Proofs.Ytbbeoeoengogpaa
