/- DiskPlays. -/
import Derived.Test.YthhcnfbolhoeaaaR10
import Derived.Test.YthhcnfbolhoeaaaD12
import Derived.Test.YthhcnfbolhoeaaaKA
import Derived.Test.YthhcnfbolhoeaaaKL
namespace Go.Proofs.Ythhcnfbolhoeaaa
open Go.ChangeShapes Go.WideShapes Go.ChangeAt Go.RowKit
set_option linter.unusedVariables false

/-- The k-th act of a list, in memory. -/
theorem ActsAt.at_ {w : World} {A : Option Addr} {n : Nat} {l : List Act'} (h : ActsAt w A n l) (k : Nat) (hk : k < n) :
    ∃ b off, A = some ⟨b, off, none⟩ ∧ ∃ a : Act', a = l.getD k Act'.dflt ∧ a.Ok ∧ w.cell? ⟨b, off + k * 4, none⟩ = some (.int .i64 a.kind) ∧ w.cell? ⟨b, off + k * 4 + 1, none⟩ = some (.int .i64 a.off) ∧ w.cell? ⟨b, off + k * 4 + 2, none⟩ = some (.int .i64 a.n) ∧ w.cell? ⟨b, off + k * 4 + 3, none⟩ = some (.string a.text) := by
  obtain ⟨b, off, e, _, hc⟩ := h.2.2.2 (by omega)
  refine ⟨b, off, e, _, rfl, h.2.2.1 _ (getD_mem (by rw [h.1]; exact hk)), hc k hk 0 (by omega), ?_, ?_, ?_⟩
  · have := hc k hk 1 (by omega); rwa [← Nat.add_assoc] at this
  · have := hc k hk 2 (by omega); rwa [← Nat.add_assoc] at this
  · have := hc k hk 3 (by omega); rwa [← Nat.add_assoc] at this
theorem ActsAt.since {w w' : World} {A : Option Addr} {n m : Nat} {l : List Act'} (h : ActsAt w A n l) (hs : Since m w w') (hm : w.heap.size ≤ m) : ActsAt w' A n l :=
  h.keep hs (fun k hk h' => by omega)

set_option maxHeartbeats 1500000 in
set_option maxRecDepth 100000 in
theorem plays_walk (A : Option Addr) (n c : Nat) (l : List Act') (w : World) (hA : ActsAt w A n l) :
    Calls Try.prog 3 #[.slice A n c] w fun e w' => e = .returned (.bool true) ∧ Below w.heap.size w w' := by
  have hnl := hA.2.1
  have HA := Lib.hid hA; clear hA
  go_enter Try.func3, Try.ntmps3
  go_wp2_with fail
  refine (sanity_any w).mono ?_
  rintro e w1 ⟨rfl, hs1⟩
  have S1 := Lib.hid hs1; clear hs1
  go_wp2_with fail
  refine (new_D w1).mono ?_
  rintro e w2 ⟨rfl, hd2, hs2⟩
  have D2 := Lib.hid hd2; have S2 := Lib.hid hs2; clear hd2 hs2
  go_wp2_with fail
  refine (new_ref w2).mono ?_
  rintro e w3 ⟨rfl, hw3⟩
  have hdk := desk_new D2.out S2.out hw3
  clear hw3
  go_wp2_with fail
  have HI0 := Lib.hid (show DK w1.heap.size _ w3.heap.size DS.new ∧ DS.new.few (200 * 0) ∧ Since w.heap.size w _ from ⟨hdk.1, new_few, Keep.trans S1.out (Since.mono hdk.2 S1.out.size)⟩)
  clear hdk D2 S2
  go_loopw [5] (fun i wr => ∃ k : Nat, k ≤ 40 ∧ i = .int .i64 (k : Int) ∧ ∃ d : DS, Hid (DK w1.heap.size wr w3.heap.size d ∧ d.few (200 * k) ∧ Since w.heap.size w wr)) (fun i _ => 41 - (intOf i).toNat)
  case atStart => exact ⟨0, by omega, rfl, _, HI0⟩
  case round =>
    obtain ⟨k, hk, rfl, d, HI⟩ := hrel
    obtain ⟨wo, rfl⟩ : ∃ wo : World, wo = wr := ⟨_, rfl⟩
    by_cases hlt : k < n ∧ k < 40
    · obtain ⟨b, off, rfl, a, hae, ha, x0, x1, x2, x3⟩ := (HA.out.since HI.out.2.2 (Nat.le_refl _)).at_ k hlt.1
      clear hae
      have hl1 := hlt.1
      have hl2 := hlt.2
      have b1 : decide (k < n) = true := by simpa using hl1
      have b2 : decide (k < 40) = true := by simpa using hl2
      have hf := HI.out.2.1
      have HC := Lib.hid (do_any HI.out.1 (hf.mono (by omega)) a ha)
      have HF := Lib.hid (act_few hf a)
      clear hlt hf
      go_wp2_with fail
      ((with_reducible refine HC.out.mono ?_); rintro e w5 ⟨rfl, hd5, hs5⟩)
      obtain ⟨r, ρ, hd⟩ := hd5
      have HD := Lib.hid hd
      have S5 := Lib.hid (Keep.trans HI.out.2.2 (Since.mono hs5 S1.out.size))
      have KC := Lib.hid hd.cells
      have K := Lib.hid (keep_draw (fun _ => False) w5)
      clear hd hs5 x0 x1 x2 x3
      go_wp2_with fail
      go_region_held3 (fun w' => w'.cell? ⟨w3.heap.size, 0, none⟩ = some (.pointer (some ⟨r.p, 0, none⟩)) ∧ w'.cell? ⟨w3.heap.size, 1, none⟩ = some (.pointer (some ⟨ρ.p, 0, none⟩))) (first | exact KC.out)
        (first
          | (go_at_call 17; refine (size_disk (HD.out.disk.keep K.out (fun _ _ => id))).mono ?_; rintro e wn ⟨rfl, rfl⟩)
          | (go_at_call 18; refine (size_ref (HD.out.ref.keep K.out (fun _ _ => id))).mono ?_; rintro e wn ⟨rfl, rfl⟩)
          | (go_at_call 19; refine (calls_disk (HD.out.disk.keep K.out (fun _ _ => id))).mono ?_; rintro e wn ⟨rfl, rfl⟩)
          | (go_at_call 20; refine (calls_ref (HD.out.ref.keep K.out (fun _ _ => id))).mono ?_; rintro e wn ⟨rfl, rfl⟩))
      all_goals go_wp2_with fail
      all_goals go_roundw
      all_goals first
        | exact ⟨k + 1, by omega, by go_num, _, Lib.hid ⟨⟨r, ρ, HD.out.quiet K.out⟩, HF.out.mono (by omega), Keep.trans S5.out (Since.of K.out)⟩⟩
        | (simp [intOf]; omega)
    · by_cases hl1 : k < n
      · have hl2 : ¬ k < 40 := by omega
        have b1 : decide (k < n) = true := by simpa using hl1
        have b2 : decide (k < 40) = false := by simpa using hl2
        clear hlt
        go_wp2_with fail
        refine (same_any HI.out.1).mono ?_
        rintro e w9 ⟨rfl, hs9⟩
        have S9 := Lib.hid (Keep.trans HI.out.2.2 (Since.of hs9))
        clear hs9
        go_wp2_with fail
        go_ret
        exact ⟨rfl, below_since S9.out rfl⟩

      · have b1 : decide (k < n) = false := by simpa using hl1
        clear hlt
        go_wp2_with fail
        refine (same_any HI.out.1).mono ?_
        rintro e w9 ⟨rfl, hs9⟩
        have S9 := Lib.hid (Keep.trans HI.out.2.2 (Since.of hs9))
        clear hs9
        go_wp2_with fail
        go_ret
        exact ⟨rfl, below_since S9.out rfl⟩

set_option maxRecDepth 100000 in
theorem plays_lifted (os : Os) (started : os.Started) (H : Type) (enc : TypeId × Value → H) :
    ReturnsInHanded {} Try.checked os 3 .any (Rows.diskPlaysSpec.pre6 enc Try.prog Try.f3 Rows.diskPlaysRow.domain false) (Rows.diskPlaysSpec.post enc Try.prog Try.f3 false true false false) := by
  refine law_lift (C := Try.checked) Try.own started (by kernel_rfl) Try.func3
    (ChangeSpec.witness6 (enc := enc) (C := Try.checked) false ⟨#[], #[.slice none 0 0], []⟩ 8 (by kernel_rfl) (by kernel_rfl) (by kernel_rfl) (by kernel_rfl))
    Try.laidOut (by kernel_rfl) rfl rfl Try.underlying4 ?_ ?_
  · intro ds hl
    match ds, hl with
    | [d1], _ => exact ⟨rfl, rfl, rfl⟩
  · intro W base args ds p hval0 hA0 hlt hsz0
    have hval : ∀ (j : Nat) t v, Try.f3.params[j]? = some t → args[j]? = some v → Value.okWide Try.prog W .any base t v := hval0
    have hA : DataW.TrodAll enc Try.prog W 0 (fun _ => true) true Try.f3.params.toList args.toList ds p := hA0
    have hsz : (DataW.weightsEach Try.prog Try.f3.params.toList ds).all (· ≤ reachBytes) = true := hsz0
    rw [Try.params3] at hA hval hsz
    clear hA0 hval0 hsz0
    obtain ⟨v0, d0, rfl, rfl, h0⟩ := trodAll_one hA
    have hlt0 : ∀ x ∈ p, x.block < W.heap.size := hlt
    obtain ⟨Al, nl, cl, l, rfl, il⟩ := open_acts Try.underlying22 Try.underlying33 (by kernel_rfl) (by kernel_rfl) Try.underlying3 Try.underlying3 Try.underlying3 Try.underlying9 (hval 0 22 v0 rfl rfl) h0 hlt0
    exact plays_walk Al nl cl l W il

/-- The statement. -/
theorem plays_holds : Rows.DiskPlaysSaid :=
  OpenClaim.holds_of_wide 3 Try.f3 rfl rfl rfl rfl rfl rfl rfl ⟨rfl, rfl, rfl, rfl, rfl⟩ rfl rfl rfl rfl rfl (by kernel_rfl) Try.func3 (by kernel_rfl)
    (of_decide_eq_true (by kernel_rfl)) (by unfold Func.isWrapper; first | (rw [if_pos (by decide +kernel)]; kernel_rfl) | (rw [if_neg (by decide +kernel)]; exact ⟨rfl, rfl⟩))
    (fun os started H enc _ => plays_lifted os started H enc)
#print axioms plays_holds
end Go.Proofs.Ythhcnfbolhoeaaa
