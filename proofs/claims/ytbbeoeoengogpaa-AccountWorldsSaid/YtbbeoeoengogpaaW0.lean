/- facsimileref01: Mod and the numbers that are read one after the other. -/
import Derived.Test.YtbbeoeoengogpaaAKB
import Derived.Test.YtbbeoeoengogpaaA6
import Derived.Laws.OwnMore
import Derived.Deep.AppendLies
import Derived.Deep.RegionHeld3
namespace Go.Proofs.Ytbbeoeoengogpaa
open Go.RowKit
set_option linter.unusedVariables false

theorem mod1_any (a m : Int) (hm : 1 ≤ m ∧ m ≤ 1000000) : ∃ r : Int, (0 ≤ r ∧ r < m) ∧ ∀ w : World,
    Calls Try.prog 38 #[.int .i64 a, .int .i64 m] w fun e w' => e = .returned (.int .i64 r) ∧ w = w' := by
  have h1 : a.tmod m < m := Int.tmod_lt_of_pos a (by omega)
  have h2 : -m < a.tmod m := Int.lt_tmod_of_pos a (by omega)
  obtain ⟨t, ht⟩ : ∃ t, a.tmod m = t := ⟨_, rfl⟩
  rw [ht] at h1 h2
  have h3 : 0 ≤ (t + m).tmod m := Int.tmod_nonneg _ (by omega)
  have h4 : (t + m).tmod m < m := Int.tmod_lt_of_pos _ (by omega)
  have hm0 : m ≠ 0 := by omega
  have hmz : (m == 0) = false := by simpa using hm0
  refine ⟨(t + m).tmod m, ⟨h3, h4⟩, fun w => ?_⟩
  obtain ⟨r, hr⟩ : ∃ r, (t + m).tmod m = r := ⟨_, rfl⟩
  rw [hr] at h3 h4 ⊢
  go_enter Try.func38, Try.ntmps38
  go_wp2
  go_ret
  exact ⟨rfl, rfl⟩

/-- Numbers, whose list lies below n0 and who themselves lie above. -/
def NV (n0 : Nat) (w : World) (p : Nat) : Prop := ∃ (AL : Option Addr) (nl cl : Nat) (xs : List Int) (k : Nat), w.heap[p]? = some (.cells #[.slice AL nl cl, .int .i64 (k : Int)] 81 (0, 0)) ∧ k ≤ nl ∧ nl ≤ 140737488351232 ∧ IntsAt w AL nl xs ∧ (0 < nl → ∀ b, AL = some b → b.block < n0) ∧ n0 ≤ p
theorem NV.lt {n0 p : Nat} {w : World} (h : NV n0 w p) : p < w.heap.size := let ⟨_, _, _, _, _, hb, _⟩ := h; blk_lt hb
theorem NV.base {n0 p : Nat} {w : World} (h : NV n0 w p) : n0 ≤ p := let ⟨_, _, _, _, _, _, _, _, _, _, hb⟩ := h; hb
theorem NV.keep {n0 p : Nat} {w w' : World} {F : Nat → Prop} (h : NV n0 w p) (hk : Keep F w w') (hF : ¬ F p) (hn : ∀ k, F k → n0 ≤ k) : NV n0 w' p := by
  obtain ⟨AL, nl, cl, xs, k, hb, h1, h2, h3, h4, h5⟩ := h
  refine ⟨AL, nl, cl, xs, k, (hk.block p (blk_lt hb) hF).trans hb, h1, h2, ?_, h4, h5⟩
  by_cases h0 : nl = 0
  · subst h0
    have e := List.eq_nil_of_length_eq_zero h3.1
    unfold IntsAt
    rw [e]
    exact CellsAt.nil _ _
  · exact h3.keep hk (fun b e hf => by have := hn _ hf; have := h4 (by omega) b e; omega)
set_option maxHeartbeats 2000000 in
theorem next1_any {n0 p : Nat} {w : World} (h : NV n0 w p) (n : Int) (hn : 1 ≤ n ∧ n ≤ 1000000) :
    Calls Try.prog 35 #[.pointer (some ⟨p, 0, none⟩), .int .i64 n] w fun e w' => ∃ r : Int, e = .returned (.int .i64 r) ∧ (0 ≤ r ∧ r < n) ∧ NV n0 w' p ∧ Keep (fun k => k = p) w w' := by
  have H := Lib.hid h
  obtain ⟨AL, nl, cl, xs, k, hb, h1, h2, h3, h4, h5⟩ := h
  have c0 : w.cell? ⟨p, 0, none⟩ = some (.slice AL nl cl) := by rw [blk_cell hb]; rfl
  have c1 : w.cell? ⟨p, 1, none⟩ = some (.int .i64 (k : Int)) := by rw [blk_cell hb]; rfl
  have f1 : w.frozen? ⟨p, 1, none⟩ = false := blk_free hb 1
  have hn1 : decide (n < 1) = false := by simp; omega
  have HB := Lib.hid hb
  have H3 := Lib.hid h3
  have H4 := Lib.hid h4
  clear hb h3 h4
  by_cases hk : k < nl
  · have hb1 : decide (nl ≤ k) = false := by simp; omega
    obtain ⟨bf, of, rfl, x0⟩ := H3.out.at_ k hk
    obtain ⟨a, ha⟩ : ∃ a, xs.getD k 0 = a := ⟨_, rfl⟩
    rw [ha] at x0
    have hne : bf ≠ p := by have := H4.out (by omega) _ rfl; simp only at this; omega
    go_enter Try.func35, Try.ntmps35
    go_wp2_with fail
    go_quiet (fail)
    go_wp2_with fail
    have hk0 := keep_set (Keep.mono (keep_drewN (fun _ => False) w nq) (F' := fun k => k = p) (fun _ => False.elim)) 1 (.int .i64 ((k : Int) + 1))
    have hb2 := blk_set (w := w.drewN nq) HB.out 1 (.int .i64 ((k : Int) + 1))
    obtain ⟨W, hW⟩ : ∃ W, (w.drewN nq).setCell ⟨p, 1, none⟩ (.int .i64 ((k : Int) + 1)) = W := ⟨_, rfl⟩
    rw [hW] at hk0 hb2 ⊢
    have d0 : W.cell? ⟨p, 0, none⟩ = some (.slice (some ⟨bf, of, none⟩) nl cl) := by rw [blk_cell hb2]; rfl
    have d1 : W.cell? ⟨p, 1, none⟩ = some (.int .i64 ((k : Int) + 1)) := by rw [blk_cell hb2]; rfl
    have y0 : W.cell? ⟨bf, of + k, none⟩ = some (.int .i64 a) := cell_kept hk0 x0 hne
    have hI := H3.out.keep hk0 (fun b e hf => by cases e; exact hne hf)
    have HP := Lib.hid (show NV n0 W p from ⟨_, nl, cl, xs, k + 1, hb2, by omega, h2, hI, H4.out, h5⟩)
    have HK := Lib.hid hk0
    obtain ⟨r, hr, hM⟩ := mod1_any a n hn
    have HM := Lib.hid hM
    clear hk0 hb2 hW hI hM x0 c0 c1 f1
    go_quiet (first | (go_at_call 38; exact quiet_l (HM.out _)))
    go_wp2_with fail
    go_ret
    exact ⟨r, rfl, hr, HP.out.keep (F := fun _ => False) (keep_drewN _ _ _) id (fun _ => False.elim), Keep.trans HK.out (keep_drewN _ _ _)⟩
  · obtain rfl : k = nl := by omega
    have hb1 : decide (k ≤ k) = true := by simp
    go_enter Try.func35, Try.ntmps35
    go_wp2_with fail
    go_quiet (fail)
    go_wp2_with fail
    go_ret
    exact ⟨0, rfl, by omega, H.out.keep (F := fun _ => False) (keep_drewN _ _ _) id (fun _ => False.elim), keep_drewN _ _ _⟩
end Go.Proofs.Ytbbeoeoengogpaa
