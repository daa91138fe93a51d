/- Install: Ints, Mod, Act.Module. -/
import Derived.Test.YtnhajhejkecihaaI10
namespace Go.Proofs.Ytnhajhejkecihaa
open Go.RowKit Go.Lib
set_option linter.unusedVariables false
set_option linter.unusedSimpArgs false

set_option maxHeartbeats 2000000 in
theorem mod_small (w : World) (a m : Nat) (hm : 1 ≤ m ∧ m ≤ 100000) (ha : a ≤ 100000) : Calls Try.prog 18 #[.int .i64 a, .int .i64 m] w fun e w' => e = .returned (.int .i64 ((a % m : Nat) : Int)) ∧ w = w' := by
  have hr : IntKind.i64.wrap ((a : Int).tmod m) = ((a % m : Nat) : Int) := by
    rw [← Int.ofNat_tmod]
    rw [IntKind.wrap_i64]
    have := Nat.mod_lt a (show 0 < m by omega)
    omega
  have hm0 : ¬ m = 0 := by omega
  have hm1 : ((m : Int) == 0) = false := by simp; omega
  have hneg : decide (((a % m : Nat) : Int) < 0) = false := by simp; omega
  obtain ⟨q, hq⟩ : ∃ q, a % m = q := ⟨_, rfl⟩
  rw [hq] at hr hneg ⊢
  go_enter Try.func18, Try.ntmps18
  go_wp2_with fail
  go_ret
  refine ⟨?_, rfl⟩
  rw [← hq]
  simp
set_option maxHeartbeats 2000000 in
theorem ints_one_any {w : World} {g g2 c c2 : Nat} {v : Int} (h1 : w.cell? ⟨g, 0, none⟩ = some (.int .i64 v)) (h2 : w.cell? ⟨g2, 0, none⟩ = some (.int .i64 v)) :
    Calls Try.prog 15 #[.slice (some ⟨g, 0, none⟩) 1 c, .slice (some ⟨g2, 0, none⟩) 1 c2] w fun e w' => e = .returned (.bool true) ∧ Since w.heap.size w w' := by
  go_enter Try.func15, Try.ntmps15
  go_wp2_with fail
  go_loopw [5] (fun i wr => ∃ k : Nat, k ≤ 1 ∧ i = .int .i64 (k : Int) ∧ Hid (Keep (fun _ => False) w wr)) (fun i _ => 2 - (intOf i).toNat)
  case atStart => exact ⟨0, by omega, rfl, Lib.hid (Keep.refl _ _)⟩
  case round =>
    obtain ⟨k, hk, rfl, KK⟩ := hrel
    obtain ⟨wo, rfl⟩ : ∃ wo : World, wo = wr := ⟨_, rfl⟩
    rcases (show k = 0 ∨ k = 1 by omega) with rfl | rfl
    · have q1 : wo.cell? ⟨g, 0, none⟩ = some (.int .i64 v) := cell_kept KK.out h1 id
      have q2 : wo.cell? ⟨g2, 0, none⟩ = some (.int .i64 v) := cell_kept KK.out h2 id
      have HK := Lib.hid (show Keep (fun _ => False) w wo.drew from Keep.trans KK.out (keep_draw _ wo))
      clear h1 h2
      go_wp2_with fail
      go_region
      go_wp2_with fail
      exact ⟨⟨1, by omega, by go_num, HK⟩, by simp [intOf]⟩
    · go_wp2_with fail
      go_ret
      exact ⟨rfl, Since.of KK.out⟩
end Go.Proofs.Ytnhajhejkecihaa
