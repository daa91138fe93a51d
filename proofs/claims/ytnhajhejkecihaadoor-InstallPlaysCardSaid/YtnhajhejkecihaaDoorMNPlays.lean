/- InstallPlays: any calls have the results of the reference model: for every number of processors and every list of calls the law returns true. -/
import Derived.Test.YtnhajhejkecihaaDoorMG
namespace Go.Proofs.YtnhajhejkecihaaDoor
open Go.ChangeShapes Go.WideShapes Go.ChangeAt Go.RowKit
set_option linter.unusedVariables false
set_option linter.unusedSimpArgs false

set_option maxHeartbeats 8000000 in
set_option maxRecDepth 100000 in
theorem plays_any (w : World) (hT : TB w) (cp : Nat) (hcp : cp < 256) {A : Option Addr} {n c : Nat} {l : List Act'} (hA : ActsAt w A n l) :
    Calls Tryd.prog 3 #[.int .u8 cp, .slice A n c] w fun e w' => e = .returned (.bool true) ∧ Since w.heap.size w w' := by
  have HS := Lib.hid (sanity_any w)
  have HP := Lib.hid (fun (W : World) (hk : Since w.heap.size w W) => play_any W (hT.since hk hT.pos) cp hcp (cap := c) (hA.since hk (Nat.le_refl _)) 30 (by omega))
  clear hA hT
  go_enter Tryd.func3, Tryd.ntmps3
  go_wp2_with fail
  ((with_reducible refine HS.out.mono ?_); rintro e w1 ⟨rfl, hs⟩)
  have H01 := Lib.hid hs
  clear hs HS
  go_wp2_with fail
  ((refine (show Calls Tryd.prog _ #[_, _, .int .i64 30] w1 _ from HP.out w1 H01.out).mono ?_); rintro e w2 ⟨p, q, ρ, rfl, hp, hl⟩)
  have P2 := Lib.hid hp
  have HL1 := Lib.hid (pLive hp)
  clear hp HP
  go_wp2_with fail
  obtain ⟨L, hL⟩ : ∃ L, liveL ρ.abs.all = L := ⟨_, rfl⟩
  rw [hL] at HL1
  have HLL := Lib.hid hL
  clear hL
  ((with_reducible refine HL1.out.mono ?_); rintro e w3 ⟨⟨A1, c1, rfl, ho1⟩, hp3, hk3⟩)
  have HO1 := Lib.hid ho1
  have HL2 := Lib.hid (qLive hp3)
  rw [HLL.out] at HL2
  clear ho1 hp3 hk3 HL1
  go_wp2_with fail
  ((with_reducible refine HL2.out.mono ?_); rintro e w4 ⟨⟨A2, c2, rfl, ho2⟩, hp4, hk4⟩)
  have hI := ints_same (c1 := c1) (c2 := c2) (own_cap (hk4.own HO1.out (fun b e => by have := own_lt HO1.out b e; omega))).2 (own_cap ho2).2
  have HI := Lib.hid hI
  have P4 := Lib.hid hp4
  clear ho2 hp4 hk4 hI HL2
  go_wp2_with fail
  ((with_reducible refine HI.out.mono ?_); rintro e w5 ⟨rfl, hk5⟩)
  have HF1 := Lib.hid (pFree (P4.out.quiet hk5))
  clear hk5 HI
  obtain ⟨F, hF⟩ : ∃ F, ((16 * frees (takenB ρ.abs.all) 256 : Nat) : Int) = F := ⟨_, rfl⟩
  rw [hF] at HF1
  have HFF := Lib.hid hF
  clear hF
  go_wp2_with fail
  ((with_reducible refine HF1.out.mono ?_); rintro e w6 ⟨rfl, hp6⟩)
  have HF2 := Lib.hid (qFree hp6)
  rw [HFF.out] at HF2
  clear hp6 HF1
  go_wp2_with fail
  ((with_reducible refine HF2.out.mono ?_); rintro e w7 ⟨rfl, hp7⟩)
  have P7 := Lib.hid hp7
  clear hp7
  go_wp2_with fail
  go_ret
  exact ⟨rfl, Keep.trans H01.out (Since.mono P7.out.since H01.out.size)⟩
theorem plays_walk (x : Int) (hx : 0 ≤ x ∧ x ≤ 255) (A : Option Addr) (n c : Nat) (l : List Act') (w : World) (hA : ActsAt w A n l) (hT : TB w) :
    Calls Tryd.prog 3 #[.int .u8 x, .slice A n c] w fun e w' => e = .returned (.bool true) ∧ Below w.heap.size w w' := by
  obtain ⟨m, rfl⟩ : ∃ m : Nat, x = (m : Int) := ⟨x.toNat, by omega⟩
  refine (plays_any w hT m (by omega) hA).mono ?_
  rintro e w' ⟨h1, h2⟩
  exact ⟨h1, below_since h2 rfl⟩
set_option maxRecDepth 100000 in
theorem plays_lifted (os : Os) (started : os.Started) (H : Type) (enc : TypeId × Value → H) :
    ReturnsInHanded {} Tryd.checked os 3 .any (fun w args => (Rows.installPlaysSpec.pre enc Tryd.prog Tryd.f3 Rows.installPlaysRow.domain false w args ∧ laidMet Tryd.prog Rows.installPlaysRow.laid w) ∧ sizedMet enc Tryd.prog Tryd.f3 (OpenSpec.ofChange Rows.installPlaysSpec) false w args) (Rows.installPlaysSpec.post enc Tryd.prog Tryd.f3 false true false false) := by
  refine law_lift_laid (C := Tryd.checked) (X := fun w _ => laidMet Tryd.prog tabs w) (fun _ _ _ hh h => h.of_heap hh) Tryd.own started (by kernel_rfl) Tryd.func3
    (ChangeSpec.witness_at (enc := enc) (C := Tryd.checked) (os := os) (X := fun w _ => laidMet Tryd.prog tabs w) false (laidWorld os) #[.int .u8 0, .slice none 0 0] 8 rfl (by kernel_rfl) (by kernel_rfl) (by kernel_rfl) (by kernel_rfl) (by kernel_rfl) (laidWorld_met os _))
    Tryd.laidOut (by kernel_rfl) rfl rfl Tryd.underlying4 ?_ ?_
  · intro ds hl
    match ds, hl with
    | [d1, d2], _ => exact ⟨rfl, rfl, rfl⟩
  · intro W base args ds p hval0 hA0 hlt hsz0 hL
    have hval : ∀ (j : Nat) t v, Tryd.f3.params[j]? = some t → args[j]? = some v → Value.okWide Tryd.prog W .any base t v := hval0
    have hA : DataW.TrodAll enc Tryd.prog W 0 (fun _ => true) true Tryd.f3.params.toList args.toList ds p := hA0
    have hsz : (DataW.weightsEach Tryd.prog Tryd.f3.params.toList ds).all (· ≤ reachBytes) = true := hsz0
    rw [Tryd.params3] at hA hval hsz
    clear hA0 hval0 hsz0
    obtain ⟨v0, v1, d0, d1, p0, p1, rfl, rfl, rfl, h0, h1⟩ := trodAll_two hA
    have hlt0 : ∀ x ∈ p0, x.block < W.heap.size := fun x hx => hlt x (by simp [hx])
    have hlt1 : ∀ x ∈ p1, x.block < W.heap.size := fun x hx => hlt x (by simp [hx])
    obtain ⟨x, rfl, rfl, rfl, wx⟩ := open_int Tryd.underlying5 (hval 0 5 v0 rfl rfl) h0
    obtain ⟨Al, nl, cl, l, rfl, il⟩ := open_acts Tryd.underlying22 Tryd.underlying69 (by kernel_rfl) (by kernel_rfl) Tryd.underlying3 Tryd.underlying3 Tryd.underlying3 (hval 1 22 v1 rfl rfl) h1 hlt1
    exact plays_walk x (bd_u8 wx) Al nl cl l W il (tb_of_laid hL)

/-- The row. -/
theorem plays_row : Rows.InstallPlaysSaid :=
  OpenClaim.holds_of_wide 3 Tryd.f3 rfl rfl rfl rfl rfl rfl rfl ⟨rfl, rfl, rfl, rfl, rfl⟩ rfl rfl rfl rfl rfl (by kernel_rfl) Tryd.func3 (by kernel_rfl)
    (of_decide_eq_true (by kernel_rfl)) (by unfold Func.isWrapper; first | (rw [if_pos (by decide +kernel)]; kernel_rfl) | (rw [if_neg (by decide +kernel)]; exact ⟨rfl, rfl⟩))
    (fun os started H enc _ => plays_lifted os started H enc)
/-- The statement: the tied card. -/
theorem plays_holds : Rows.InstallPlaysCardSaid :=
  Claim7.holds_tied_plain_at .later [] [.data, .data, .data] true (true, "5af076ab2390d91f9d095ba662174c590b4b6eb6aef3ce95ba3380a4cb301d37") false
    plays_row (fun _ h => by cases h) (by kernel_rfl) (fun _ h => by cases h) installPlays_row_tie rfl ⟨rfl, rfl⟩ (by kernel_rfl) rfl
    (fun f fn hf hfn => by
      obtain rfl : f = 3 := Option.some.inj ((show Tryd.prog.funcNamed "facsimile/facsimilelaw28.InstallPlays" = some 3 by kernel_rfl).symm.trans hf) |>.symm
      obtain rfl : fn = Tryd.f3 := (Option.some.inj (Tryd.func3.symm.trans hfn)).symm
      exact ⟨by kernel_rfl, fun j t ht => by
        have h := List.all_eq_true.1 (show (Tryd.f3.params.toList.all fun t => !Tryd.prog.wantsStandIn t) = true by kernel_rfl) t (List.mem_of_getElem? (by simpa using ht))
        exact (show Tryd.prog.wantsStandIn t = false by simpa using h)⟩)
    (by kernel_rfl)
#print axioms plays_holds
end Go.Proofs.YtnhajhejkecihaaDoor
