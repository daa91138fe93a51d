/- InstallFresh: a processor that enters a module sees its bytes as they are: for every number of processors and every list of calls the law returns true. -/
import Derived.Test.YtnhajhejkecihaaDoorMG
namespace Go.Proofs.YtnhajhejkecihaaDoor
open Go.ChangeShapes Go.WideShapes Go.ChangeAt Go.RowKit
set_option linter.unusedVariables false
set_option linter.unusedSimpArgs false

theorem enter_zero {σ : RS} {c id : Int} (h : (σ.enterR c id).2.1 = 0) : σ.there id = true ∧ (σ.enterR c id).1 = σ.modB id ∧ (σ.enterR c id).2.2.cpu c = true ∧ (σ.enterR c id).2.2.busy c = true := by
  unfold RS.enterR at h ⊢
  cases hcpu : σ.cpu c with
  | false => rw [hcpu, if_pos rfl] at h; cases h
  | true =>
    rw [hcpu, if_neg (by decide)] at h
    rw [if_neg (by decide)]
    cases hth : σ.there id with
    | false => rw [hth, if_pos rfl] at h; cases h
    | true =>
      rw [hth, if_neg (by decide)] at h
      rw [if_neg (by decide)]
      cases hb : σ.busy c with
      | true => rw [hb, if_pos rfl] at h; cases h
      | false =>
        rw [hb, if_neg (by decide)] at h
        rw [if_neg (by decide)]
        cases ho : (σ.at_ id.toNat).owed.getD c.toNat false with
        | true => rw [ho, if_pos rfl] at h; cases h
        | false =>
          rw [if_neg (by decide)]
          obtain ⟨k, rfl, hk⟩ := RS.cpu_nat hcpu
          obtain ⟨i, rfl, hi, _⟩ := RS.there_at hth
          refine ⟨rfl, by unfold RS.modB; rw [if_pos hth], ?_, ?_⟩
          · unfold RS.cpu RS.left at *
            simpa using hcpu
          · have e : (σ.inn.set k (i : Int)).getD k 0 = i := by rw [List.getD_eq_getElem?_getD, List.getElem?_set_self hk]; rfl
            unfold RS.busy RS.left
            simp only [Int.toNat_natCast, e]
            simp
theorem leave_zero {σ : RS} {c : Int} (h1 : σ.cpu c = true) (h2 : σ.busy c = true) : (σ.leaveR c).1 = 0 := by
  unfold RS.leaveR
  rw [h1, h2]
  rfl
def SO (n : Nat) (w0 : World) (p q : Nat) (σ ρ : RS) (w : World) : Prop := PQ n w0 p q σ.abs ρ [] w ∧ σ.Ok
set_option maxHeartbeats 16000000 in
set_option maxRecDepth 100000 in
theorem fresh_any (w : World) (hT : TB w) (cp : Nat) (hcp : cp < 256) {A : Option Addr} {n c : Nat} {l : List Act'} (hA : ActsAt w A n l) :
    Calls Tryd.prog 4 #[.int .u8 cp, .slice A n c] w fun e w' => e = .returned (.bool true) ∧ Since w.heap.size w w' := by
  have HS := Lib.hid (sanity_any w)
  have HP := Lib.hid (fun (W : World) (hk : Since w.heap.size w W) => play_any W (hT.since hk hT.pos) cp hcp (cap := c) (hA.since hk (Nat.le_refl _)) 30 (by omega))
  clear hA hT
  go_enter Tryd.func4, Tryd.ntmps4
  go_wp2_with fail
  ((with_reducible refine HS.out.mono ?_); rintro e w1 ⟨rfl, hs⟩)
  have H01 := Lib.hid hs
  clear hs HS
  go_wp2_with fail
  ((refine (show Calls Tryd.prog _ #[_, _, .int .i64 30] w1 _ from HP.out w1 H01.out).mono ?_); rintro e w2 ⟨p, q, ρ, rfl, hp, hl⟩)
  have P2 := Lib.hid (show SO w1.heap.size w1 p q ρ ρ w2 from ⟨hp, hp.ok⟩)
  obtain ⟨u, hu0, hu1⟩ := hp.hdr
  obtain ⟨N, hN⟩ : ∃ N, ρ.L.length = N := ⟨_, rfl⟩
  rw [hN] at hu0 hl
  clear hp HP hu1 hN
  go_wp2_with fail
  clear hu0
  go_loopw [30] (fun i wr => ∃ k : Nat, k ≤ N ∧ i = .int .i64 (k : Int) ∧ ∃ σ : RS, Hid (SO w1.heap.size w1 p q σ ρ wr)) (fun i _ => N + 1 - (RowKit.intOf i).toNat)
  case atStart => exact ⟨0, Nat.zero_le _, rfl, ρ, P2⟩
  case round =>
    obtain ⟨k, hk, rfl, σ, PP⟩ := hrel
    obtain ⟨wo, rfl⟩ : ∃ wo : World, wo = wr := ⟨_, rfl⟩
    clear P2
    by_cases hlt : k < N
    · have hb : decide (k < N) = true := by simpa using hlt
      go_wp2_with fail
      go_loopw [10] (fun i wr => ∃ j : Nat, j ≤ 4 ∧ i = .int .i64 (j : Int) ∧ ∃ σ : RS, Hid (SO w1.heap.size w1 p q σ ρ wr)) (fun i _ => 5 - (RowKit.intOf i).toNat)
      case atStart => exact ⟨0, by omega, rfl, σ, PP⟩
      case round =>
        obtain ⟨j, hj, rfl, τ, QQ⟩ := hrel
        obtain ⟨wx, rfl⟩ : ∃ wx : World, wx = wr := ⟨_, rfl⟩
        clear PP
        by_cases hlt2 : j < 4
        · have hb2 : decide (j < 4) = true := by simpa using hlt2
          have HM := Lib.hid (sModule QQ.out.1 QQ.out.2 (k : Int))
          obtain ⟨th, hth⟩ : ∃ th, τ.there (k : Int) = th := ⟨_, rfl⟩
          obtain ⟨mb, hmb⟩ : ∃ mb, τ.modB (k : Int) = mb := ⟨_, rfl⟩
          rw [hth, hmb] at HM
          have HTM := Lib.hid (And.intro hth hmb)
          clear hth hmb
          go_wp2_with fail
          ((with_reducible refine HM.out.mono ?_); rintro ee w3 ⟨⟨x, rfl⟩, hp3⟩)
          have P4 := Lib.hid (show PQ w1.heap.size w1 p q τ.abs ρ [(w3.heap.size, .cells (mcells mb x).toArray 43 (0, 0))] _ ∧ τ.Ok from ⟨hp3.stored 43 z9 (mcells mb x).toArray, QQ.out.2⟩)
          have hcb := copied (w := w3) 43 z9 (mcells mb x).toArray
          have hall := x.all mb
          have hmv : modV mb x = .agg (mcells mb x).toArray := rfl
          have q2 : ((w3.alloc (.cells z9 43)).setRow w3.heap.size (mcells mb x).toArray).cell? ⟨w3.heap.size, 2, none⟩ = some (.string (sb mb)) := (blk_cell hcb 2).trans rfl
          have hms : (mcells mb x).toArray.size = 9 := rfl
          have hm2 : (mcells mb x).toArray[2]? = some (.string (sb mb)) := rfl
          obtain ⟨mc, hmc⟩ : ∃ mc, (mcells mb x).toArray = mc := ⟨_, rfl⟩
          obtain ⟨z, hz⟩ : ∃ z, sb mb = z := ⟨_, rfl⟩
          rw [hmc] at P4 hall hmv q2 hms hm2
          rw [hz] at q2 hm2
          have HM2 := Lib.hid hm2
          rw [hmv]
          have RA := Lib.hid hall
          have RS9 := Lib.hid hms
          have HZ := Lib.hid hz
          have HE := Lib.hid (sEnter P4.out.1 P4.out.2 (j : Int) (k : Int))
          have HOK := Lib.hid (P4.out.2.enter (j : Int) (k : Int))
          obtain ⟨R, hR⟩ : ∃ R, τ.enterR (j : Int) (k : Int) = R := ⟨_, rfl⟩
          have HZE := Lib.hid (fun (h0 : R.2.1 = 0) => by rw [← hR] at h0; have := enter_zero h0; rwa [hR] at this)
          rw [hR] at HE HOK
          obtain ⟨⟨s1, v, τ'⟩, rfl⟩ : ∃ y : Bytes × Int × RS, y = R := ⟨_, rfl⟩
          dsimp only at HE HOK HZE
          unfold z9 at P4 q2 HE
          clear hp3 hcb hall hmv hms hm2 hmc hz HM hR
          go_wp2_with (refine wpList_store_row rfl 43 (.tmp 11) (.tmp 41) rfl w3.heap.size 43 z9 mc rfl rfl (by exact heap_alloc_new _ _) (by rw [RS9.out]; kernel_rfl) (by rw [RS9.out]; rfl) RA.out ?_)
          ((with_reducible refine HE.out.mono ?_); rintro ee w5 ⟨rfl, hp5⟩)
          have P5 := Lib.hid (show SO w1.heap.size w1 p q τ' ρ w5 from ⟨hp5.less (fun _ h => by cases h), HOK.out⟩)
          have hk5 : w5.cell? ⟨w3.heap.size, 2, none⟩ = some (.string z) := (blk_cell (hp5.at_ (.head _)) 2).trans HM2.out
          clear hp5 HE HOK q2
          by_cases hv : v = 0
          · subst hv
            obtain ⟨g1, g2, g3, g4⟩ := HZE.out rfl
            have hsz : sb s1 = z := by rw [g2, HTM.out.2, HZ.out]
            have hte : th = true := by rw [← HTM.out.1, g1]
            subst hte
            have HLV := Lib.hid (sLeave P5.out.1 P5.out.2 (j : Int))
            have HLO := Lib.hid (P5.out.2.leave (j : Int))
            have hl0 := leave_zero g3 g4
            obtain ⟨R, hR⟩ : ∃ R, τ'.leaveR (j : Int) = R := ⟨_, rfl⟩
            rw [hR] at HLV HLO hl0
            obtain ⟨⟨lv, τ2⟩, rfl⟩ : ∃ y : Int × RS, y = R := ⟨_, rfl⟩
            dsimp only at HLV HLO hl0
            subst hl0
            rw [hsz]
            clear g1 g2 g3 g4 hsz hR
            go_wp2_with fail
            ((with_reducible refine HLV.out.mono ?_); rintro ee w6 ⟨rfl, hp6⟩)
            have P6 := Lib.hid (show SO w1.heap.size w1 p q τ2 ρ w6 from ⟨hp6, HLO.out⟩)
            clear hp6 HLV HLO
            go_wp2_with fail
            exact ⟨⟨j + 1, by omega, by go_num, τ2, P6⟩, by simp [RowKit.intOf]; omega⟩
          · have hv2 : (v == 0) = false := by simpa using hv
            clear hv
            go_wp2_with fail
            exact ⟨⟨j + 1, by omega, by go_num, τ', P5⟩, by simp [RowKit.intOf]; omega⟩
        · have hb2 : decide (j < 4) = false := by simpa using hlt2
          go_wp2_with fail
          exact ⟨⟨k + 1, by omega, by go_num, τ, QQ⟩, by simp [RowKit.intOf]; omega⟩
    · have hb : decide (k < N) = false := by simpa using hlt
      go_wp2_with fail
      go_ret
      exact ⟨rfl, Keep.trans H01.out (Since.mono PP.out.1.since H01.out.size)⟩
theorem fresh_walk (x : Int) (hx : 0 ≤ x ∧ x ≤ 255) (A : Option Addr) (n c : Nat) (l : List Act') (w : World) (hA : ActsAt w A n l) (hT : TB w) :
    Calls Tryd.prog 4 #[.int .u8 x, .slice A n c] w fun e w' => e = .returned (.bool true) ∧ Below w.heap.size w w' := by
  obtain ⟨m, rfl⟩ : ∃ m : Nat, x = (m : Int) := ⟨x.toNat, by omega⟩
  refine (fresh_any w hT m (by omega) hA).mono ?_
  rintro e w' ⟨h1, h2⟩
  exact ⟨h1, below_since h2 rfl⟩
set_option maxRecDepth 100000 in
theorem fresh_lifted (os : Os) (started : os.Started) (H : Type) (enc : TypeId × Value → H) :
    ReturnsInHanded {} Tryd.checked os 4 .any (fun w args => (Rows.installFreshSpec.pre enc Tryd.prog Tryd.f4 Rows.installFreshRow.domain false w args ∧ laidMet Tryd.prog Rows.installFreshRow.laid w) ∧ sizedMet enc Tryd.prog Tryd.f4 (OpenSpec.ofChange Rows.installFreshSpec) false w args) (Rows.installFreshSpec.post enc Tryd.prog Tryd.f4 false true false false) := by
  refine law_lift_laid (C := Tryd.checked) (X := fun w _ => laidMet Tryd.prog tabs w) (fun _ _ _ hh h => h.of_heap hh) Tryd.own started (by kernel_rfl) Tryd.func4
    (ChangeSpec.witness_at (enc := enc) (C := Tryd.checked) (os := os) (X := fun w _ => laidMet Tryd.prog tabs w) false (laidWorld os) #[.int .u8 0, .slice none 0 0] 8 rfl (by kernel_rfl) (by kernel_rfl) (by kernel_rfl) (by kernel_rfl) (by kernel_rfl) (laidWorld_met os _))
    Tryd.laidOut (by kernel_rfl) rfl rfl Tryd.underlying4 ?_ ?_
  · intro ds hl
    match ds, hl with
    | [d1, d2], _ => exact ⟨rfl, rfl, rfl⟩
  · intro W base args ds p hval0 hA0 hlt hsz0 hL
    have hval : ∀ (j : Nat) t v, Tryd.f4.params[j]? = some t → args[j]? = some v → Value.okWide Tryd.prog W .any base t v := hval0
    have hA : DataW.TrodAll enc Tryd.prog W 0 (fun _ => true) true Tryd.f4.params.toList args.toList ds p := hA0
    have hsz : (DataW.weightsEach Tryd.prog Tryd.f4.params.toList ds).all (· ≤ reachBytes) = true := hsz0
    rw [Tryd.params4] at hA hval hsz
    clear hA0 hval0 hsz0
    obtain ⟨v0, v1, d0, d1, p0, p1, rfl, rfl, rfl, h0, h1⟩ := trodAll_two hA
    have hlt0 : ∀ x ∈ p0, x.block < W.heap.size := fun x hx => hlt x (by simp [hx])
    have hlt1 : ∀ x ∈ p1, x.block < W.heap.size := fun x hx => hlt x (by simp [hx])
    obtain ⟨x, rfl, rfl, rfl, wx⟩ := open_int Tryd.underlying5 (hval 0 5 v0 rfl rfl) h0
    obtain ⟨Al, nl, cl, l, rfl, il⟩ := open_acts Tryd.underlying22 Tryd.underlying69 (by kernel_rfl) (by kernel_rfl) Tryd.underlying3 Tryd.underlying3 Tryd.underlying3 (hval 1 22 v1 rfl rfl) h1 hlt1
    exact fresh_walk x (bd_u8 wx) Al nl cl l W il (tb_of_laid hL)

/-- The row. -/
theorem fresh_row : Rows.InstallFreshSaid :=
  OpenClaim.holds_of_wide 4 Tryd.f4 rfl rfl rfl rfl rfl rfl rfl ⟨rfl, rfl, rfl, rfl, rfl⟩ rfl rfl rfl rfl rfl (by kernel_rfl) Tryd.func4 (by kernel_rfl)
    (of_decide_eq_true (by kernel_rfl)) (by unfold Func.isWrapper; first | (rw [if_pos (by decide +kernel)]; kernel_rfl) | (rw [if_neg (by decide +kernel)]; exact ⟨rfl, rfl⟩))
    (fun os started H enc _ => fresh_lifted os started H enc)
/-- The statement: the tied card. -/
theorem fresh_holds : Rows.InstallFreshCardSaid :=
  Claim7.holds_tied_plain_at .later [] [.data, .data, .data] true (true, "5af076ab2390d91f9d095ba662174c590b4b6eb6aef3ce95ba3380a4cb301d37") false
    fresh_row (fun _ h => by cases h) (by kernel_rfl) (fun _ h => by cases h) installFresh_row_tie rfl ⟨rfl, rfl⟩ (by kernel_rfl) rfl
    (fun f fn hf hfn => by
      obtain rfl : f = 4 := Option.some.inj ((show Tryd.prog.funcNamed "facsimile/facsimilelaw28.InstallFresh" = some 4 by kernel_rfl).symm.trans hf) |>.symm
      obtain rfl : fn = Tryd.f4 := (Option.some.inj (Tryd.func4.symm.trans hfn)).symm
      exact ⟨by kernel_rfl, fun j t ht => by
        have h := List.all_eq_true.1 (show (Tryd.f4.params.toList.all fun t => !Tryd.prog.wantsStandIn t) = true by kernel_rfl) t (List.mem_of_getElem? (by simpa using ht))
        exact (show Tryd.prog.wantsStandIn t = false by simpa using h)⟩)
    (by kernel_rfl)
#print axioms fresh_holds
end Go.Proofs.YtnhajhejkecihaaDoor
