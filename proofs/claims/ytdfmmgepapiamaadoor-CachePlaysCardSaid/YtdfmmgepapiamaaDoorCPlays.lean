/- CachePlays: any calls have the results of the reference model: for every list of calls the law returns true. -/
import Derived.Test.YtdfmmgepapiamaaDoorS10
import Derived.Test.YtdfmmgepapiamaaDoorKLT
import Derived.Test.YtdfmmgepapiamaaDoorKA3
namespace Go.Proofs.YtdfmmgepapiamaaDoor
open Go.ChangeShapes Go.WideShapes Go.ChangeAt Go.RowKit
set_option linter.unusedVariables false

def PI (w : World) (n p q : Nat) (k : Int) (wr : World) : Prop := (∃ v s, PQ n wr p q v s s ∧ s.few k) ∧ Since w.heap.size w wr ∧ n ≤ wr.heap.size
set_option maxHeartbeats 4000000 in
set_option maxRecDepth 100000 in
theorem plays_walk (A : Option Addr) (n c : Nat) (l : List Act') (w : World) (hA : ActsAt w A n l) (hT : TB w) :
    Calls Tryd.prog 7 #[.slice A n c] w fun e w' => e = .returned (.bool true) ∧ Below w.heap.size w w' := by
  have hnl := hA.2.1
  have HA := Lib.hid hA
  have T := Lib.hid hT
  have h0 := hT.pos
  clear hT hA
  go_enter Tryd.func7, Tryd.ntmps7
  go_wp2_with fail
  ((with_reducible refine (sanity_any w T.out).mono ?_); rintro e w1 ⟨rfl, hk1⟩)
  have S1 := Lib.hid hk1; clear hk1
  go_wp2_with fail
  ((with_reducible refine (new_site w1).mono ?_); rintro e w2 ⟨rfl, hs2, hk2⟩)
  have P2 := Lib.hid hs2; have S2 := Lib.hid (Keep.trans S1.out (Since.mono hk2 S1.out.size)); have Z := S1.out.size; have L2 := hs2.lt; clear hs2 hk2
  obtain ⟨p, hp⟩ : ∃ p, w1.heap.size = p := ⟨_, rfl⟩
  rw [hp] at P2 Z L2 ⊢
  clear hp S1
  go_wp2_with fail
  ((with_reducible refine (new_ref w2).mono ?_); rintro e w3 ⟨rfl, hs3, hk3⟩)
  have HI0 := Lib.hid (show PI w p p w2.heap.size ((0 : Nat) : Int) w3 from ⟨⟨_, CS.new, ⟨P2.out.since hk3 L2, ⟨hs3.blk, own_base hs3.own p (fun k hk => by have := own_low hs3.own hk; omega), by omega, hs3.ok⟩, Nat.le_refl _⟩, ⟨by decide, by decide⟩⟩, Keep.trans S2.out (Since.mono hk3 S2.out.size), by have := hk3.size; omega⟩)
  obtain ⟨q, hq⟩ : ∃ q, w2.heap.size = q := ⟨_, rfl⟩
  rw [hq] at HI0 ⊢
  clear hq hs3 hk3 S2 P2
  go_wp2_with fail
  go_loopw [6] (fun i wr => ∃ k : Nat, k ≤ 60 ∧ i = .int .i64 (k : Int) ∧ Hid (PI w p p q (k : Int) wr)) (fun i _ => 61 - (intOf i).toNat)
  case atStart => exact ⟨0, by omega, rfl, HI0⟩
  case round =>
    obtain ⟨k, hk, rfl, HI⟩ := hrel
    obtain ⟨wo, rfl⟩ : ∃ wo : World, wo = wr := ⟨_, rfl⟩
    by_cases hlt : k < n ∧ k < 60
    · obtain ⟨b, off, rfl, a, hae, ha, x0, x1, x2⟩ := (HA.out.since HI.out.2.1 (Nat.le_refl _)).at_ k hlt.1
      obtain ⟨v, s, hpq, hfw⟩ := HI.out.1
      have hdo := do_any hpq HI.out.2.2 hfw (by omega) a ha
      obtain ⟨ax, ay, az⟩ := a
      simp only at x0 x1 x2 hdo
      have HDO := Lib.hid hdo
      have hl1 := hlt.1
      have hl2 := hlt.2
      have b1 : decide (k < n) = true := by simpa using hl1
      have b2 : decide (k < 60) = true := by simpa using hl2
      clear hlt hae ha hpq hfw hdo
      go_wp2_with fail
      ((with_reducible refine HDO.out.mono ?_); rintro e w5 ⟨rfl, ⟨v5, s5, h5, hf5⟩, hk5⟩)
      have S5 := Lib.hid (Keep.trans HI.out.2.1 (Since.mono hk5 Z))
      have hsm := same_any h5 (T.out.since S5.out h0)
      have HSM := Lib.hid hsm
      have H5 := Lib.hid h5
      have F5 := Lib.hid hf5
      have hz5 := hk5.size
      have hz0 := HI.out.2.2
      clear hsm h5 hf5 hk5 x0 x1 x2 HDO
      go_wp2_with fail
      ((with_reducible refine HSM.out.mono ?_); rintro e w6 ⟨rfl, hk6⟩)
      have HI6 := Lib.hid (show PI w p p q ((k + 1 : Nat) : Int) w6 from ⟨⟨v5, s5, H5.out.quiet hk6 (Nat.le_refl _), F5.out.mono (by omega)⟩, Keep.trans S5.out (Since.mono hk6 S5.out.size), by have := hk6.size; omega⟩)
      clear hk6 HSM
      go_wp2_with fail
      exact ⟨⟨k + 1, by omega, by go_num, HI6⟩, by simp [intOf]; omega⟩
    · have hb : (k < n ∧ ¬ k < 60 ∧ decide (k < n) = true ∧ decide (k < 60) = false) ∨ decide (k < n) = false := by
        by_cases h1 : k < n
        · exact .inl ⟨h1, by omega, by simpa using h1, by simp; omega⟩
        · exact .inr (by simpa using h1)
      obtain ⟨v, s, hpq, hfw⟩ := HI.out.1
      have HSM := Lib.hid (same_any hpq (T.out.since HI.out.2.1 h0))
      clear hlt hpq hfw
      rcases hb with ⟨hl1, hl2, b1, b2⟩ | b1
      all_goals (
        go_wp2_with fail
        ((with_reducible refine HSM.out.mono ?_); rintro e w6 ⟨rfl, hk6⟩)
        have S6 := Lib.hid (Keep.trans HI.out.2.1 (Since.mono hk6 HI.out.2.1.size))
        clear hk6 HSM
        go_wp2_with fail
        go_ret
        exact ⟨rfl, below_since S6.out rfl⟩)
set_option maxRecDepth 100000 in
theorem plays_lifted (os : Os) (started : os.Started) (H : Type) (enc : TypeId × Value → H) :
    ReturnsInHanded {} Tryd.checked os 7 .any (fun w args => (Rows.cachePlaysSpec.pre enc Tryd.prog Tryd.f7 Rows.cachePlaysRow.domain false w args ∧ laidMet Tryd.prog Rows.cachePlaysRow.laid w) ∧ sizedMet enc Tryd.prog Tryd.f7 (OpenSpec.ofChange Rows.cachePlaysSpec) false w args) (Rows.cachePlaysSpec.post enc Tryd.prog Tryd.f7 false true false false) := by
  refine law_lift_laid (C := Tryd.checked) (X := fun w _ => laidMet Tryd.prog tabs w) (fun _ _ _ hh h => h.of_heap hh) Tryd.own started (by kernel_rfl) Tryd.func7
    (ChangeSpec.witness_at (enc := enc) (C := Tryd.checked) (os := os) (X := fun w _ => laidMet Tryd.prog tabs w) false (laidWorld os) #[.slice none 0 0] 8 rfl (by kernel_rfl) (by kernel_rfl) (by kernel_rfl) (by kernel_rfl) (by kernel_rfl) (laidWorld_met os _))
    Tryd.laidOut (by kernel_rfl) rfl rfl Tryd.underlying4 ?_ ?_
  · intro ds hl
    match ds, hl with
    | [d1], _ => exact ⟨rfl, rfl, rfl⟩
  · intro W base args ds p hval0 hA0 hlt hsz0 hL
    have hval : ∀ (j : Nat) t v, Tryd.f7.params[j]? = some t → args[j]? = some v → Value.okWide Tryd.prog W .any base t v := hval0
    have hA : DataW.TrodAll enc Tryd.prog W 0 (fun _ => true) true Tryd.f7.params.toList args.toList ds p := hA0
    have hsz : (DataW.weightsEach Tryd.prog Tryd.f7.params.toList ds).all (· ≤ reachBytes) = true := hsz0
    rw [Tryd.params7] at hA hval hsz
    clear hA0 hval0 hsz0
    obtain ⟨v0, d0, rfl, rfl, h0⟩ := trodAll_one hA
    have hlt0 : ∀ x ∈ p, x.block < W.heap.size := hlt
    obtain ⟨Al, nl, cl, l, rfl, il⟩ := open_acts Tryd.underlying31 Tryd.underlying34 (by kernel_rfl) (by kernel_rfl) Tryd.underlying3 Tryd.underlying3 Tryd.underlying3 (hval 0 31 v0 rfl rfl) h0 hlt0
    exact plays_walk Al nl cl l W il (tb_of_laid hL)

/-- The row. -/
theorem plays_row : Rows.CachePlaysSaid :=
  OpenClaim.holds_of_wide 7 Tryd.f7 rfl rfl rfl rfl rfl rfl rfl ⟨rfl, rfl, rfl, rfl, rfl⟩ rfl rfl rfl rfl rfl (by kernel_rfl) Tryd.func7 (by kernel_rfl)
    (of_decide_eq_true (by kernel_rfl)) (by unfold Func.isWrapper; first | (rw [if_pos (by decide +kernel)]; kernel_rfl) | (rw [if_neg (by decide +kernel)]; exact ⟨rfl, rfl⟩))
    (fun os started H enc _ => plays_lifted os started H enc)
/-- The statement: the tied card. -/
theorem plays_holds : Rows.CachePlaysCardSaid :=
  Claim7.holds_tied_plain_at .later [] [.data, .data, .data] true (true, "dac5fa98be8ba01293bcc018d0cdd3b90fbf6db38275f6b49ccd14927eae94f6") false
    plays_row (fun _ h => by cases h) (by kernel_rfl) (fun _ h => by cases h) cachePlays_row_tie rfl ⟨rfl, rfl⟩ (by kernel_rfl) rfl
    (fun f fn hf hfn => by
      obtain rfl : f = 7 := Option.some.inj ((show Tryd.prog.funcNamed "facsimile/facsimilelaw12.CachePlays" = some 7 by kernel_rfl).symm.trans hf) |>.symm
      obtain rfl : fn = Tryd.f7 := (Option.some.inj (Tryd.func7.symm.trans hfn)).symm
      exact ⟨by kernel_rfl, fun j t ht => by
        have h := List.all_eq_true.1 (show (Tryd.f7.params.toList.all fun t => !Tryd.prog.wantsStandIn t) = true by kernel_rfl) t (List.mem_of_getElem? (by simpa using ht))
        exact (show Tryd.prog.wantsStandIn t = false by simpa using h)⟩)
    (by kernel_rfl)
#print axioms plays_holds
end Go.Proofs.YtdfmmgepapiamaaDoor
