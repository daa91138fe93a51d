/- DiskNil. -/
import Derived.Test.YthhcnfbolhoeaaaPlays
import Derived.Test.YthhcnfbolhoeaaaKM
namespace Go.Proofs.Ythhcnfbolhoeaaa
open Go.ChangeShapes Go.WideShapes Go.ChangeAt Go.RowKit
set_option linter.unusedVariables false

theorem nil_size (w : World) : Calls Try.prog 17 #[.pointer none] w fun e w' => e = .returned (.int .i64 0) ∧ w = w' := by
  go_enter Try.func17, Try.ntmps17
  go_wp2_with fail
  go_ret
  exact ⟨rfl, rfl⟩
theorem nil_calls (w : World) : Calls Try.prog 19 #[.pointer none] w fun e w' => e = .returned (.int .i64 0) ∧ w = w' := by
  go_enter Try.func19, Try.ntmps19
  go_wp2_with fail
  go_ret
  exact ⟨rfl, rfl⟩
theorem nil_read (w : World) (off n : Int) : Calls Try.prog 29 #[.pointer none, .int .i64 off, .int .i64 n] w fun e w' => e = .returned (.string ⟨#[]⟩) ∧ w = w' := by
  go_enter Try.func29, Try.ntmps29
  go_wp2_with fail
  go_ret
  exact ⟨rfl, rfl⟩
theorem nil_sync (w : World) : Calls Try.prog 28 #[.pointer none] w fun e w' => e = .returned (.int .i64 1) ∧ w = w' := by
  go_enter Try.func28, Try.ntmps28
  go_wp2_with fail
  go_ret
  exact ⟨rfl, rfl⟩
theorem nil_fail (w : World) (n : Int) : Calls Try.prog 30 #[.pointer none, .int .i64 n] w fun e w' => e = .returned (.tuple #[]) ∧ w = w' := by
  go_enter Try.func30, Try.ntmps30
  go_wp2_with fail
  go_end0
  exact ⟨rfl, rfl⟩
theorem nil_crash (w : World) (v : Value) : Calls Try.prog 23 #[.pointer none, v] w fun e w' => e = .returned (.pointer (some ⟨w.heap.size, 0, none⟩)) ∧ D w.heap.size w' w.heap.size DS.new ∧ Since w.heap.size w w' := by
  go_enter Try.func23, Try.ntmps23
  go_wp2_with fail
  refine (new_D w).mono ?_
  rintro e w' ⟨rfl, hd, hs⟩
  have HD := Lib.hid hd
  have HS := Lib.hid hs
  clear hd hs
  go_wp2_with fail
  go_ret
  exact ⟨rfl, HD.out, HS.out⟩

set_option maxHeartbeats 1500000 in
set_option maxRecDepth 100000 in
theorem nil_walk (off : Int) (s : ByteArray) (A : Option Addr) (m c : Nat) (hs : s.size ≤ 140737488351232) (ho : -9223372036854775808 ≤ off ∧ off ≤ 9223372036854775807) (w : World) :
    Calls Try.prog 12 #[.int .i64 off, .string s, .slice A m c] w fun e w' => e = .returned (.bool true) ∧ Below w.heap.size w w' := by
  go_enter Try.func12, Try.ntmps12
  go_wp2_with fail
  refine (sanity_any w).mono ?_
  rintro e w1 ⟨rfl, hs1⟩
  have S1 := Lib.hid hs1; clear hs1
  go_wp2_with fail
  refine (nil_fail w1 off).mono ?_
  rintro e wx ⟨rfl, rfl⟩
  go_wp2_with fail
  refine (nil_crash w1 _).mono ?_
  rintro e w2 ⟨rfl, hd2, hs2⟩
  have D2 := Lib.hid hd2; have S2 := Lib.hid (Keep.trans S1.out (Since.mono hs2 S1.out.size)); have L2 := Lib.hid hs2.size; clear hd2 hs2
  go_wp2_with fail
  obtain ⟨wb, hwb⟩ : ∃ wb, w2.alloc (.cells #[.slice none 0 0, .slice none 0 0, .slice none 0 0, .int .i64 0, .bool false, .int .i64 0] 62) = wb := ⟨_, rfl⟩
  have hdb : D w2.heap.size wb w2.heap.size DS.new := by rw [← hwb]; exact ⟨_, rfl, isDisk_new w2, foot_new w2⟩
  have hsb : Since w2.heap.size w2 wb := by rw [← hwb]; exact Since.of ((Keep.refl _ w2).alloc' _)
  rw [hwb]
  refine (new_ref wb).mono ?_
  rintro e w3 ⟨rfl, hw3⟩
  have hdk := desk_new hdb hsb hw3
  have hdo := do_any hdk.1 (new_few.mono (by omega)) ⟨0, off, 0, s⟩ ⟨by unfold i64In; simp, ho, by unfold i64In; simp, by simp only; omega⟩
  simp only at hdo
  have HDO := Lib.hid hdo
  have S3 := Lib.hid (Keep.trans S2.out (Since.mono hdk.2 S2.out.size))
  have SDK := Lib.hid hdk.2
  clear hw3 hdb hsb hwb hdo hdk
  go_wp2_with fail
  ((with_reducible refine HDO.out.mono ?_); rintro e w5 ⟨rfl, hd5, hs5⟩)
  have hf1 := act_few new_few ⟨0, off, 0, s⟩
  have hdo := do_any hd5 (hf1.mono (by omega)) ⟨7, 0, off, ⟨#[]⟩⟩ ⟨by unfold i64In; simp, by unfold i64In; simp, ho, by simp only; decide⟩
  simp only at hdo
  have HDO2 := Lib.hid hdo
  have S5 := Lib.hid (Keep.trans S3.out (Since.mono hs5 S2.out.size))
  have SD5 := Lib.hid hs5
  clear hd5 hs5 hdo hf1
  go_wp2_with fail
  ((with_reducible refine HDO2.out.mono ?_); rintro e w6 ⟨rfl, hd6, hs6⟩)
  have S6 := Lib.hid (Keep.trans S5.out (Since.mono hs6 S2.out.size))
  have SD6 := Lib.hid (Keep.trans SD5.out hs6)
  have DK6 := Lib.hid hd6
  clear hd6 hs6
  go_wp2_with fail
  refine (same_any DK6.out).mono ?_
  rintro e w7 ⟨rfl, hs7⟩
  have S7 := Lib.hid (Keep.trans S6.out (Since.of hs7))
  have SD7 := Lib.hid (Keep.trans SD6.out (Since.of hs7))
  clear hs7
  have D7 := Lib.hid (D2.out.since (Keep.trans SDK.out SD7.out) (Nat.le_refl _))
  go_wp2_with fail
  refine (nil_size w7).mono ?_
  rintro e wx ⟨rfl, rfl⟩
  go_wp2_with fail
  refine (nil_calls w7).mono ?_
  rintro e wx ⟨rfl, rfl⟩
  go_wp2_with fail
  refine (nil_read w7 off 5).mono ?_
  rintro e wx ⟨rfl, rfl⟩
  go_wp2_with fail
  refine (write_bad w7 none off s ho (by omega) (.inl rfl)).mono ?_
  rintro e wx ⟨rfl, rfl⟩
  go_wp2_with fail
  refine (nil_sync w7).mono ?_
  rintro e wx ⟨rfl, rfl⟩
  go_wp2_with fail
  refine (size_D D7.out).mono ?_
  rintro e wx ⟨rfl, rfl⟩
  rw [show DS.new.now.length = 0 from rfl]
  go_wp2_with fail
  refine (write_D D7.out 0 ⟨#[97]⟩ (by decide) (by decide) few_now.1 (show DS.new.doWrite 0 (bs ⟨#[97]⟩) = (0, DS.new.write 0 [97]) from rfl)).mono ?_
  rintro e w8 ⟨rfl, hd8, hs8⟩
  have S8 := Lib.hid (Keep.trans S7.out (Since.mono hs8 S1.out.size))
  clear hd8 hs8
  go_wp2_with fail
  go_ret
  exact ⟨rfl, below_since S8.out rfl⟩
set_option maxRecDepth 100000 in
theorem nil_lifted (os : Os) (started : os.Started) (H : Type) (enc : TypeId × Value → H) :
    ReturnsInHanded {} Try.checked os 12 .any (Rows.diskNilSpec.pre6 enc Try.prog Try.f12 Rows.diskNilRow.domain false) (Rows.diskNilSpec.post enc Try.prog Try.f12 false true false false) := by
  refine law_lift (C := Try.checked) Try.own started (by kernel_rfl) Try.func12
    (ChangeSpec.witness6 (enc := enc) (C := Try.checked) false ⟨#[], #[.int .i64 0, .string ⟨#[]⟩, .slice none 0 0], []⟩ 8 (by kernel_rfl) (by kernel_rfl) (by kernel_rfl) (by kernel_rfl))
    Try.laidOut (by kernel_rfl) rfl rfl Try.underlying4 ?_ ?_
  · intro ds hl
    match ds, hl with
    | [d1, d2, d3], _ => exact ⟨rfl, rfl, rfl⟩
  · intro W base args ds p hval0 hA0 hlt hsz0
    have hval : ∀ (j : Nat) t v, Try.f12.params[j]? = some t → args[j]? = some v → Value.okWide Try.prog W .any base t v := hval0
    have hA : DataW.TrodAll enc Try.prog W 0 (fun _ => true) true Try.f12.params.toList args.toList ds p := hA0
    have hsz : (DataW.weightsEach Try.prog Try.f12.params.toList ds).all (· ≤ reachBytes) = true := hsz0
    rw [Try.params12] at hA hval hsz
    clear hA0 hval0 hsz0
    obtain ⟨v0, v1, v2, d0, d1, d2, p0, p1, p2, rfl, rfl, rfl, h0, h1, h2⟩ := trodAll_three hA
    have hlt0 : ∀ x ∈ p0, x.block < W.heap.size := fun x hx => hlt x (by simp [hx])
    have hlt1 : ∀ x ∈ p1, x.block < W.heap.size := fun x hx => hlt x (by simp [hx])
    have hlt2 : ∀ x ∈ p2, x.block < W.heap.size := fun x hx => hlt x (by simp [hx])
    obtain ⟨off, rfl, rfl, rfl, woff⟩ := open_int Try.underlying3 (hval 0 3 v0 rfl rfl) h0
    obtain ⟨s, rfl, zs⟩ := open_str Try.underlying9 (hval 1 9 v1 rfl rfl) h1 (fun b hd => sized_string hsz (j := 1) rfl (by simp [hd]))
    obtain ⟨Aq, nq, cq, q, rfl, iq, zq, rq, wq⟩ := open_ints_at Try.underlying36 Try.underlying3 (by kernel_rfl) (by kernel_rfl) (hval 2 36 v2 rfl rfl) h2 hlt2 (fun el sp hd => sized_slice hsz (j := 2) rfl (by simp [hd]) Try.underlying36)
    exact nil_walk off s Aq nq cq zs (bd_i64 woff) W

/-- The statement. -/
theorem nil_holds : Rows.DiskNilSaid :=
  OpenClaim.holds_of_wide 12 Try.f12 rfl rfl rfl rfl rfl rfl rfl ⟨rfl, rfl, rfl, rfl, rfl⟩ rfl rfl rfl rfl rfl (by kernel_rfl) Try.func12 (by kernel_rfl)
    (of_decide_eq_true (by kernel_rfl)) (by unfold Func.isWrapper; first | (rw [if_pos (by decide +kernel)]; kernel_rfl) | (rw [if_neg (by decide +kernel)]; exact ⟨rfl, rfl⟩))
    (fun os started H enc _ => nil_lifted os started H enc)
#print axioms nil_holds
end Go.Proofs.Ythhcnfbolhoeaaa
