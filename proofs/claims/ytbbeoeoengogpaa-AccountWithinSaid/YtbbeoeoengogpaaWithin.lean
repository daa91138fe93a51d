/- Within, Due and Fits are those of the reference implementation, for all ints (AccountWithin). No condition. -/
import Derived.Test.YtbbeoeoengogpaaA6
import Derived.Test.YtbbeoeoengogpaaAM
import Derived.Deep.RegionWith
namespace Go.Proofs.Ytbbeoeoengogpaa
open Go.ChangeShapes Go.WideShapes Go.ChangeAt Go.RowKit
set_option linter.unusedVariables false

set_option maxRecDepth 100000 in
set_option maxHeartbeats 1000000 in
theorem within_walk (f s q0 q1 : Int) (hf : I64 f) (hs : I64 s) (hq0 : I64 q0) (hq1 : I64 q1) (w : World) :
    Calls Try.prog 5 #[.int .i64 f, .int .i64 s, .agg #[.int .i64 q0, .int .i64 q1]] w fun e w' => e = .returned (.bool true) ∧ Below w.heap.size w w' := by
  obtain ⟨b0, hb0⟩ : ∃ b, bits BinOp.and IntKind.i64 q0 15 = b := ⟨_, rfl⟩
  obtain ⟨b1, hb1⟩ : ∃ b, bits BinOp.and IntKind.i64 q1 31 = b := ⟨_, rfl⟩
  have i0 : I64 b0 := by rw [← hb0]; exact bd_i64 (wf_bits _ _ _ _)
  have i1 : I64 b1 := by rw [← hb1]; exact bd_i64 (wf_bits _ _ _ _)
  obtain ⟨X, hX⟩ : ∃ X : Nat → Nat → Int, X = fun k i => (([[f, s, q0, q1], [s, f, q1, q0], [f, s, b0, b1], [f, s, q0, 1]].getD k []).getD i 0) := ⟨_, rfl⟩
  have hXI : ∀ k i, k < 4 → i < 4 → I64 (X k i) := by
    intro k i hk hi
    have h1 : I64 1 := by unfold I64; omega
    subst hX
    rcases k with _ | _ | _ | _ | k <;> rcases i with _ | _ | _ | _ | i <;> first | assumption | omega
  have HXI := Lib.hid hXI
  have HX := Lib.hid hX
  clear hXI hX
  go_enter Try.func5, Try.ntmps5
  go_wp2_with fail
  refine (sanity_any _).mono ?_
  rintro e w1 ⟨rfl, hbw⟩
  have hc0 : w1.cell? ⟨w.heap.size, 0, none⟩ = some (.int .i64 q0) := (hbw.cell (p := ⟨w.heap.size, 0, none⟩) (by simp)).trans (by go_simp)
  have hc1 : w1.cell? ⟨w.heap.size, 1, none⟩ = some (.int .i64 q1) := (hbw.cell (p := ⟨w.heap.size, 1, none⟩) (by simp)).trans (by go_simp)
  have HB := Lib.hid (below_then (below_alloc _) hbw)
  clear hbw
  go_wp2_with fail
  have hsz : w.heap.size ≤ w1.heap.size := HB.out.size
  obtain ⟨w2, hw2⟩ : ∃ w2, (w1.alloc (.cells #[.int .i64 f, .int .i64 s, .int .i64 q0, .int .i64 q1, .int .i64 s, .int .i64 f, .int .i64 q1, .int .i64 q0, .int .i64 f, .int .i64 s, .int .i64 b0, .int .i64 b1, .int .i64 f, .int .i64 s, .int .i64 q0, .int .i64 1] 34)) = w2 := ⟨_, rfl⟩
  have hcc : ∀ k i, k < 4 → i < 4 → w2.cell? ⟨w1.heap.size, k * 4 + i, none⟩ = some (.int .i64 (X k i)) := by
    intro k i hk hi
    rw [← hw2, HX.out]
    simp only [World.cell?, heap_alloc_new]
    rcases k with _ | _ | _ | _ | k <;> rcases i with _ | _ | _ | _ | i <;> first | rfl | omega
  have hs2 : w2.heap.size = w1.heap.size + 1 := by rw [← hw2]; simp
  have hB2 : Below w.heap.size w w2 := by rw [← hw2]; exact HB.out.alloc hsz _
  rw [hw2]
  have HC := Lib.hid hcc
  have HS := Lib.hid hs2
  have HB2 := Lib.hid hB2
  clear hcc hs2 hB2 hw2 hc0 hc1 hb0 hb1
  go_loopw [41] (fun i wr => ∃ k : Nat, k ≤ 4 ∧ i = .int .i64 k ∧ Below w2.heap.size w2 wr) (fun i _ => 4 - (intOf i).toNat)
  case atStart => exact ⟨0, by omega, rfl, Below.refl _ _⟩
  case round =>
    obtain ⟨k, hk, rfl, hbr⟩ := hrel
    have HR := Lib.hid hbr
    clear hbr
    by_cases hlt : k < 4
    · have hrd : ∀ i, i < 4 → wr.cell? ⟨w1.heap.size, k * 4 + i, none⟩ = some (.int .i64 (X k i)) := fun i hi => (HR.out.cell (p := ⟨w1.heap.size, k * 4 + i, none⟩) (by rw [HS.out]; simp)).trans (HC.out k i hlt hi)
      have r0 := hrd 0 (by omega)
      have r1 := hrd 1 (by omega)
      have r2 := hrd 2 (by omega)
      have r3 := hrd 3 (by omega)
      have x0 := HXI.out k 0 hlt (by omega)
      have x1 := HXI.out k 1 hlt (by omega)
      have x2 := HXI.out k 2 hlt (by omega)
      have x3 := HXI.out k 3 hlt (by omega)
      generalize X k 0 = a at r0 x0
      generalize X k 1 = b at r1 x1
      generalize X k 2 = c at r2 x2
      generalize X k 3 = d at r3 x3
      simp only [Nat.add_zero] at r0
      have HX0 := Lib.hid x0
      have HX1 := Lib.hid x1
      have HX2 := Lib.hid x2
      have HX3 := Lib.hid x3
      clear hrd x0 x1 x2 x3
      go_wp2_with fail
      go_quiet (first | (go_at_call 16; exact quiet_l (within_any _ _ _ _ _ HX0.out HX1.out HX2.out HX3.out)) | (go_at_call 17; exact quiet_k (within_ref _ _ _ _ _ HX0.out HX1.out HX2.out HX3.out)) | (go_at_call 18; exact quiet_l (due_any _ _ _ HX1.out HX2.out)) | (go_at_call 19; exact quiet_l (due_ref _ _ _ HX1.out HX2.out)))
      go_wp2_with fail
      go_quiet (first | (go_at_call_of 20 (Value.int IntKind.i64 d); exact quiet_add_l (fits_any _ _ _ _ HX1.out HX0.out HX3.out)) | (go_at_call_of 21 (Value.int IntKind.i64 d); exact quiet_add_l (fits_ref _ _ _ _ HX1.out HX0.out HX3.out)) | (go_at_call 20; exact quiet_add_l (fits_any _ _ _ _ HX0.out HX1.out HX2.out)) | (go_at_call 21; exact quiet_add_l (fits_ref _ _ _ _ HX0.out HX1.out HX2.out)))
      go_wp2_with fail
      go_roundw
      case rel => exact ⟨k + 1, by omega, by go_num, below_drewN (HR.out.alloc HR.out.size _) _⟩
      case measure => simp [intOf]; omega
    · obtain rfl : k = 4 := by omega
      go_wp2_with fail
      go_ret
      exact ⟨rfl, HB2.out.trans (HR.out.mono HB2.out.size)⟩
set_option maxRecDepth 100000 in
theorem within_lifted (os : Os) (started : os.Started) (H : Type) (enc : TypeId × Value → H) :
    ReturnsInHanded {} Try.checked os 5 .any (Rows.accountWithinSpec.pre6 enc Try.prog Try.f5 Rows.accountWithinRow.domain false) (Rows.accountWithinSpec.post enc Try.prog Try.f5 false true false false) := by
  refine law_lift (C := Try.checked) Try.own started (by kernel_rfl) Try.func5
    (ChangeSpec.witness6 (enc := enc) (C := Try.checked) false ⟨#[], #[.int .i64 0, .int .i64 0, .agg #[.int .i64 0, .int .i64 0]], []⟩ 8 (by kernel_rfl) (by kernel_rfl) (by kernel_rfl) (by kernel_rfl))
    Try.laidOut (by kernel_rfl) rfl rfl Try.underlying4 ?_ ?_
  · intro ds hl
    match ds, hl with
    | [d1, d2, d3], _ => exact ⟨rfl, rfl, rfl⟩
  · intro W base args ds p hval0 hA0 hlt hsz0
    have hval : ∀ (j : Nat) t v, Try.f5.params[j]? = some t → args[j]? = some v → Value.okWide Try.prog W .any base t v := hval0
    have hA : DataW.TrodAll enc Try.prog W 0 (fun _ => true) true Try.f5.params.toList args.toList ds p := hA0
    have hsz : (DataW.weightsEach Try.prog Try.f5.params.toList ds).all (· ≤ reachBytes) = true := hsz0
    rw [Try.params5] at hA hval hsz
    clear hA0 hval0 hsz0
    obtain ⟨v0, v1, v2, d0, d1, d2, p0, p1, p2, rfl, rfl, rfl, h0, h1, h2⟩ := trodAll_three hA
    obtain ⟨f, rfl, rfl, rfl, wf⟩ := open_int Try.underlying3 (hval 0 3 v0 rfl rfl) h0
    obtain ⟨s, rfl, rfl, rfl, ws⟩ := open_int Try.underlying3 (hval 1 3 v1 rfl rfl) h1
    obtain ⟨q0, q1, rfl, wq0, wq1⟩ := open_int_array2 Try.underlying25 Try.underlying3 (by kernel_rfl) (by kernel_rfl) (hval 2 25 v2 rfl rfl) h2
    exact within_walk f s q0 q1 (bd_i64 wf) (bd_i64 ws) (bd_i64 wq0) (bd_i64 wq1) W

/-- The statement. -/
theorem within_holds : Rows.AccountWithinSaid :=
  OpenClaim.holds_of_wide 5 Try.f5 rfl rfl rfl rfl rfl rfl rfl ⟨rfl, rfl, rfl, rfl, rfl⟩ rfl rfl rfl rfl rfl (by kernel_rfl) Try.func5 (by kernel_rfl)
    (of_decide_eq_true (by kernel_rfl)) (by unfold Func.isWrapper; first | (rw [if_pos (by decide +kernel)]; kernel_rfl) | (rw [if_neg (by decide +kernel)]; exact ⟨rfl, rfl⟩))
    (fun os started H enc _ => within_lifted os started H enc)
#print axioms within_holds
end Go.Proofs.Ytbbeoeoengogpaa
