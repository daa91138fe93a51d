/- DiskCrashes: two crashes of a desk. (Under way.) -/
import Derived.Test.YthhcnfbolhoeaaaAgain
import Derived.Deep.RegionHeld3
namespace Go.Proofs.Ythhcnfbolhoeaaa
open Go.ChangeShapes Go.WideShapes Go.ChangeAt Go.RowKit
set_option linter.unusedVariables false

/-- A desk of a crash of the disk and of a crash of the model. -/
theorem desk_crash {wa w1 w2 : World} {r' : Rep} {p5 : Nat} {dc : DS} (hp : r'.p = wa.heap.size) (hd : IsDisk w1 r' dc) (hf : ∀ k, r'.foot k → wa.heap.size ≤ k) (h12 : Keep (fun _ => False) wa w1) (hp5 : w1.heap.size ≤ p5) (hr : IsRef w2 ⟨p5, .slice none 0 0, 0⟩ dc) (hk : Keep (fun _ => False) w1 w2) :
    DK wa.heap.size (w2.alloc (.cells #[.pointer (some ⟨wa.heap.size, 0, none⟩), .pointer (some ⟨p5, 0, none⟩)] 30)) w2.heap.size dc := by
  have hk2 : Keep (fun _ => False) w2 (w2.alloc (.cells #[.pointer (some ⟨wa.heap.size, 0, none⟩), .pointer (some ⟨p5, 0, none⟩)] 30)) := (Keep.refl _ w2).alloc' _
  have hfl := hd.foot_lt
  have hs1 := h12.size
  have hs2 := hk.size
  have hp5lt := hr.foot_lt p5 (.inl rfl)
  have hrf : ∀ k, (⟨p5, .slice none 0 0, 0⟩ : RRep).foot k → k = p5 := by
    rintro k (hk | hk)
    · exact hk
    · simp [Value.ownBlock] at hk
  refine ⟨r', ⟨p5, .slice none 0 0, 0⟩, ?_, (hd.keep hk (fun _ _ => id)).keep hk2 (fun _ _ => id), hr.keep hk2 (fun _ _ => id), ?_, ?_, ?_, by omega, hf, ?_⟩
  · rw [hp]; exact heap_alloc_new _ _
  · intro k h1 h2
    have := hfl k h1
    have := hrf k h2
    omega
  · intro h1
    have := hfl _ h1
    omega
  · intro h1
    have := hrf _ h1
    omega
  · intro k h1
    have := hrf k h1
    omega

set_option maxHeartbeats 1500000 in
set_option maxRecDepth 100000 in
theorem crashes_walk (A : Option Addr) (n c : Nat) (l : List Act') (A1 : Option Addr) (n1 c1 : Nat) (a1 : List Int) (bb : Int) (w : World) (hA : ActsAt w A n l)
    (h1 : IntsAt w A1 n1 a1) (w1 : ∀ x ∈ a1, -9223372036854775808 ≤ x ∧ x ≤ 9223372036854775807) (hb : i64In bb) :
    Calls Try.prog 4 #[.slice A n c, .slice A1 n1 c1, .int .i64 bb] w fun e w' => e = .returned (.bool true) ∧ Below w.heap.size w w' := by
  have hnl := hA.2.1
  have HA := Lib.hid hA
  have H1 := Lib.hid h1
  have W1 := Lib.hid w1
  have HB := Lib.hid hb
  clear hA h1 w1 hb
  go_enter Try.func4, Try.ntmps4
  go_wp2_with fail
  refine (sanity_any w).mono ?_
  rintro e w1 ⟨rfl, hs1⟩
  have S1 := Lib.hid hs1; clear hs1
  go_wp2_with fail
  refine (new_D w1).mono ?_
  rintro e w2 ⟨rfl, hd2, hs2⟩
  have D2 := Lib.hid hd2; have S2 := Lib.hid hs2; clear hd2 hs2
  go_wp2_with fail
  refine (new_ref w2).mono ?_
  rintro e w3 ⟨rfl, hw3⟩
  have hdk := desk_new D2.out S2.out hw3
  clear hw3
  go_wp2_with fail
  have HI0 := Lib.hid (show DK w1.heap.size _ w3.heap.size DS.new ∧ DS.new.few (200 * 0) ∧ Since w.heap.size w _ from ⟨hdk.1, new_few, Keep.trans S1.out (Since.mono hdk.2 S1.out.size)⟩)
  clear hdk D2 S2
  go_loopw [9] (fun i wr => ∃ k : Nat, k ≤ 20 ∧ i = .int .i64 (k : Int) ∧ ∃ d : DS, Hid (DK w1.heap.size wr w3.heap.size d ∧ d.few (200 * k) ∧ Since w.heap.size w wr)) (fun i _ => 21 - (intOf i).toNat)
  case atStart => exact ⟨0, by omega, rfl, _, HI0⟩
  case round =>
    obtain ⟨k, hk, rfl, d, HI⟩ := hrel
    obtain ⟨wo, rfl⟩ : ∃ wo : World, wo = wr := ⟨_, rfl⟩
    by_cases hlt : k < n ∧ k < 20
    · obtain ⟨b, off, rfl, a, hae, ha, x0, x1, x2, x3⟩ := (HA.out.since HI.out.2.2 (Nat.le_refl _)).at_ k hlt.1
      clear hae
      have hl1 := hlt.1
      have hl2 := hlt.2
      have b1 : decide (k < n) = true := by simpa using hl1
      have b2 : decide (k < 20) = true := by simpa using hl2
      have hf := HI.out.2.1
      obtain ⟨kd, ao, an, tx⟩ := a
      simp only at x0 x1 x2 x3
      obtain ⟨k5, hk5⟩ : ∃ k5, kd % 5 = k5 := ⟨_, rfl⟩
      have hk5b : 0 ≤ k5 ∧ k5 < 5 := by omega
      have M5 := fun w => Lib.hid (hk5 ▸ mod_any w kd 5 (by decide) (by decide) ha.kind)
      have hkw : Since w1.heap.size wo (wo.alloc (.cells #[.int .i64 k5, .int .i64 ao, .int .i64 an, .string tx] 33)) := Since.of ((Keep.refl _ wo).alloc' _)
      have hkz : Since wo.heap.size wo (wo.alloc (.cells #[.int .i64 k5, .int .i64 ao, .int .i64 an, .string tx] 33)) := Since.of ((Keep.refl _ wo).alloc' _)
      have hdo := do_any (HI.out.1.since hkz (Nat.le_refl _)) (hf.mono (by omega)) ⟨k5, ao, an, tx⟩ ⟨by unfold i64In; simp only; omega, ha.off, ha.n, ha.text⟩
      simp only at hdo
      have HC := Lib.hid hdo
      have HF := Lib.hid (act_few hf ⟨k5, ao, an, tx⟩)
      have KW := Lib.hid hkw
      clear hlt hf hdo hkw hkz hk5 ha
      go_wp2_with fail
      refine (M5 _).out.mono ?_
      rintro e wx ⟨rfl, rfl⟩
      go_wp2_with fail
      ((with_reducible refine HC.out.mono ?_); rintro e w5 ⟨rfl, hd5, hs5⟩)
      have HD := Lib.hid hd5
      have S5 := Lib.hid (Keep.trans HI.out.2.2 (Since.mono (Keep.trans KW.out hs5) S1.out.size))
      clear hd5 hs5 x0 x1 x2 x3
      go_wp2_with fail
      all_goals go_roundw
      all_goals first
        | exact ⟨k + 1, by omega, by go_num, _, Lib.hid ⟨HD.out, HF.out.mono (by omega), S5.out⟩⟩
        | (simp [intOf]; omega)
    · have hcase : (k < n ∧ ¬ k < 20 ∧ decide (k < n) = true ∧ decide (k < 20) = false) ∨ (¬ k < n ∧ decide (k < n) = false) := by
        by_cases hl1 : k < n
        · exact .inl ⟨hl1, by omega, by simpa using hl1, by simp; omega⟩
        · exact .inr ⟨hl1, by simpa using hl1⟩
      obtain ⟨hdk, hfw, hsw⟩ := HI.out
      have HDK := Lib.hid hdk
      obtain ⟨r, ρ, hd⟩ := hdk
      have HD := Lib.hid hd
      have S5 := Lib.hid hsw
      have hp1 : d.parts.length ≤ 1000000000 := by have := hfw.2; omega
      have HI1 := Lib.hid (ints_go H1.out hsw (Nat.le_refl _))
      have KC := Lib.hid hd.cells
      have K := Lib.hid (keep_draw (fun _ => False) wo)
      clear hlt hd hfw hsw
      rcases hcase with ⟨hl1, hl2, b1, b2⟩ | ⟨hl1, b1⟩
      all_goals (
        go_wp2_with fail
        go_region_held3 (fun w' => w'.cell? ⟨w3.heap.size, 0, none⟩ = some (.pointer (some ⟨r.p, 0, none⟩)) ∧ w'.cell? ⟨w3.heap.size, 1, none⟩ = some (.pointer (some ⟨ρ.p, 0, none⟩))) (first | exact KC.out | exact cell_two ((Keep.refl _ _).alloc' _) KC.out id)
          (first
            | (go_at_call 23; refine (crash_disk (HD.out.disk.keep K.out (fun _ _ => id)) A1 n1 c1 a1 (HI1.out.keep K.out (fun _ _ => id)) W1.out hp1).mono ?_; rintro e wc ⟨rfl, r', hp', hd', hkc, hf'⟩; have HR := Lib.hid (And.intro hp' (And.intro hd' (And.intro hkc hf'))); replace KC := Lib.hid (cell_two hkc KC.out id); replace K := Lib.hid (Keep.trans K.out hkc); clear hp' hd' hkc hf')
            | (go_at_call 24; refine (rcrash (HD.out.ref.keep K.out (fun _ _ => id)) A1 n1 c1 a1 (HI1.out.keep K.out (fun _ _ => id)) W1.out hp1).mono ?_; rintro e wd ⟨p5, rfl, hp5, hr5, hk5⟩; have HR5 := Lib.hid (And.intro hp5 (And.intro hr5 hk5)); replace KC := Lib.hid (cell_two hk5 KC.out id); replace K := Lib.hid (Keep.trans K.out hk5); clear hp5 hr5 hk5))
        all_goals (
          have hone := desk_crash (wa := wo.drew) HR.out.1 HR.out.2.1 HR.out.2.2.2 HR.out.2.2.1 HR5.out.1 HR5.out.2.1 HR5.out.2.2
          have hk6 := K.out.alloc' (.cells #[.pointer (some ⟨wo.heap.size, 0, none⟩), .pointer (some ⟨p5, 0, none⟩)] 30)
          have hkc6 := cell_two ((Keep.refl (fun _ => False) wd).alloc' (.cells #[.pointer (some ⟨wo.heap.size, 0, none⟩), .pointer (some ⟨p5, 0, none⟩)] 30)) KC.out id
          obtain ⟨w6, hw6⟩ : ∃ w6, wd.alloc (.cells #[.pointer (some ⟨wo.heap.size, 0, none⟩), .pointer (some ⟨p5, 0, none⟩)] 30) = w6 := ⟨_, rfl⟩
          have hone' : DK wo.drew.heap.size w6 wd.heap.size (d.crash a1) := by rw [← hw6]; exact hone
          rw [hw6] at hk6 hkc6 ⊢
          have ONE := Lib.hid hone'
          have K6 := Lib.hid hk6
          have KC2 := Lib.hid hkc6
          have K2 := Lib.hid (keep_draw (fun _ => False) w6)
          have KD := Lib.hid (Keep.refl (fun _ => False) w6.drew)
          clear hone hone' hk6 hkc6 hw6 KC K
          go_wp2_with fail
          go_region_held3 (fun w' => w'.cell? ⟨w3.heap.size, 0, none⟩ = some (.pointer (some ⟨r.p, 0, none⟩)) ∧ w'.cell? ⟨w3.heap.size, 1, none⟩ = some (.pointer (some ⟨ρ.p, 0, none⟩))) (first | exact KC2.out | exact cell_two ((Keep.refl _ _).alloc' _) KC2.out id)
            (first
              | (go_at_call 25; refine (survive_any _ bb HB.out).mono ?_; rintro e ws ⟨A9, m9, c9, rfl, hi9, hk9⟩; have HI9 := Lib.hid hi9; replace KC2 := Lib.hid (cell_two hk9 KC2.out id); replace K2 := Lib.hid (Keep.trans K2.out hk9); replace KD := Lib.hid (Keep.trans KD.out hk9); clear hi9 hk9)
              | (go_at_call 23; refine (crash_disk (HD.out.disk.keep (Keep.trans K6.out K2.out) (fun _ _ => id)) _ _ _ _ HI9.out (survL_in HB.out) hp1).mono ?_; rintro e wc2 ⟨rfl, r2, hp', hd', hkc, hf'⟩; have HR2 := Lib.hid (And.intro hp' (And.intro hd' (And.intro hkc hf'))); replace KC2 := Lib.hid (cell_two hkc KC2.out id); replace K2 := Lib.hid (Keep.trans K2.out hkc); replace KD := Lib.hid (Keep.refl (fun _ => False) wc2); clear hp' hd' hkc hf')
              | (go_at_call 24; refine (rcrash (HD.out.ref.keep (Keep.trans K6.out K2.out) (fun _ _ => id)) _ _ _ _ HI9.out (survL_in HB.out) hp1).mono ?_; rintro e wd2 ⟨p6, rfl, hp5, hr5, hk5⟩; have HR6 := Lib.hid (And.intro (Nat.le_trans KD.out.size hp5) (And.intro hr5 (Keep.trans KD.out hk5))); replace KC2 := Lib.hid (cell_two hk5 KC2.out id); replace K2 := Lib.hid (Keep.trans K2.out hk5); clear hp5 hr5 hk5))
          all_goals (
            have htwo := desk_crash HR2.out.1 HR2.out.2.1 HR2.out.2.2.2 HR2.out.2.2.1 HR6.out.1 HR6.out.2.1 HR6.out.2.2
            have hk7 := fun o => Keep.trans K2.out ((Keep.refl (fun _ => False) wd2).alloc' o)
            have TWO := Lib.hid htwo
            have K7 := Lib.hid hk7
            clear htwo hk7
            go_wp2_with fail
            refine (same_any (DK.since ONE.out (Since.of (K7.out _)) (Nat.le_refl _))).mono ?_
            rintro e w9 ⟨rfl, hs9⟩
            have K9 := Lib.hid hs9
            clear hs9
            go_wp2_with fail
            refine (same_any (DK.since TWO.out (Since.of K9.out) (Nat.le_refl _))).mono ?_
            rintro e w10 ⟨rfl, hs10⟩
            have K10 := Lib.hid hs10
            clear hs10
            go_wp2_with fail
            refine (same_any (DK.since HDK.out (Since.of (Keep.trans K6.out (Keep.trans (K7.out _) (Keep.trans K9.out K10.out)))) (Nat.le_refl _))).mono ?_
            rintro e w11 ⟨rfl, hs11⟩
            have K11 := Lib.hid hs11
            clear hs11
            go_wp2_with fail
            go_ret
            exact ⟨rfl, below_since (Keep.trans S5.out (Since.of (Keep.trans K6.out (Keep.trans (K7.out _) (Keep.trans K9.out (Keep.trans K10.out K11.out)))))) rfl⟩)))
set_option maxRecDepth 100000 in
theorem crashes_lifted (os : Os) (started : os.Started) (H : Type) (enc : TypeId × Value → H) :
    ReturnsInHanded {} Try.checked os 4 .any (Rows.diskCrashesSpec.pre6 enc Try.prog Try.f4 Rows.diskCrashesRow.domain false) (Rows.diskCrashesSpec.post enc Try.prog Try.f4 false true false false) := by
  refine law_lift (C := Try.checked) Try.own started (by kernel_rfl) Try.func4
    (ChangeSpec.witness6 (enc := enc) (C := Try.checked) false ⟨#[], #[.slice none 0 0, .slice none 0 0, .int .i64 0], []⟩ 8 (by kernel_rfl) (by kernel_rfl) (by kernel_rfl) (by kernel_rfl))
    Try.laidOut (by kernel_rfl) rfl rfl Try.underlying4 ?_ ?_
  · intro ds hl
    match ds, hl with
    | [d1, d2, d3], _ => exact ⟨rfl, rfl, rfl⟩
  · intro W base args ds p hval0 hA0 hlt hsz0
    have hval : ∀ (j : Nat) t v, Try.f4.params[j]? = some t → args[j]? = some v → Value.okWide Try.prog W .any base t v := hval0
    have hA : DataW.TrodAll enc Try.prog W 0 (fun _ => true) true Try.f4.params.toList args.toList ds p := hA0
    have hsz : (DataW.weightsEach Try.prog Try.f4.params.toList ds).all (· ≤ reachBytes) = true := hsz0
    rw [Try.params4] at hA hval hsz
    clear hA0 hval0 hsz0
    obtain ⟨v0, v1, v2, d0, d1, d2, p0, p1, p2, rfl, rfl, rfl, h0, h1, h2⟩ := trodAll_three hA
    have hlt0 : ∀ x ∈ p0, x.block < W.heap.size := fun x hx => hlt x (by simp [hx])
    have hlt1 : ∀ x ∈ p1, x.block < W.heap.size := fun x hx => hlt x (by simp [hx])
    have hlt2 : ∀ x ∈ p2, x.block < W.heap.size := fun x hx => hlt x (by simp [hx])
    obtain ⟨Al, nl, cl, l, rfl, il⟩ := open_acts Try.underlying22 Try.underlying33 (by kernel_rfl) (by kernel_rfl) Try.underlying3 Try.underlying3 Try.underlying3 Try.underlying9 (hval 0 22 v0 rfl rfl) h0 hlt0
    obtain ⟨Aqa, nqa, cqa, qa, rfl, iqa, zqa, rqa, wqa⟩ := open_ints_at Try.underlying36 Try.underlying3 (by kernel_rfl) (by kernel_rfl) (hval 1 36 v1 rfl rfl) h1 hlt1 (fun el sp hd => sized_slice hsz (j := 1) rfl (by simp [hd]) Try.underlying36)
    obtain ⟨bb, rfl, rfl, rfl, wbb⟩ := open_int Try.underlying3 (hval 2 3 v2 rfl rfl) h2
    exact crashes_walk Al nl cl l Aqa nqa cqa qa bb W il iqa (fun x hx => bd_i64 (wqa x hx)) (bd_i64 wbb)

/-- The statement. -/
theorem crashes_holds : Rows.DiskCrashesSaid :=
  OpenClaim.holds_of_wide 4 Try.f4 rfl rfl rfl rfl rfl rfl rfl ⟨rfl, rfl, rfl, rfl, rfl⟩ rfl rfl rfl rfl rfl (by kernel_rfl) Try.func4 (by kernel_rfl)
    (of_decide_eq_true (by kernel_rfl)) (by unfold Func.isWrapper; first | (rw [if_pos (by decide +kernel)]; kernel_rfl) | (rw [if_neg (by decide +kernel)]; exact ⟨rfl, rfl⟩))
    (fun os started H enc _ => crashes_lifted os started H enc)
#print axioms crashes_holds
end Go.Proofs.Ythhcnfbolhoeaaa
