/- InstallLive: a live module can be entered wherever no module runs, and after every processor has left and passed a safe point every module there is live: for every number of processors and every list of calls the law returns true. -/
import Derived.Test.YtnhajhejkecihaaDoorMG
namespace Go.Proofs.YtnhajhejkecihaaDoor
open Go.ChangeShapes Go.WideShapes Go.ChangeAt Go.RowKit
set_option linter.unusedVariables false
set_option linter.unusedSimpArgs false

def LvV (n : Nat) (w0 : World) (p q : Nat) (ρ : RS) (D : List (Nat × Obj)) (σ : RS) (w : World) : Prop := PQ n w0 p q σ.abs ρ D w ∧ σ.Ok ∧ Alike σ ρ
def LvU (n : Nat) (w0 : World) (p q : Nat) (ρ : RS) (j : Nat) (σ : RS) (w : World) : Prop := PQ n w0 p q σ.abs ρ [] w ∧ σ.Ok ∧ Passed σ ρ j
theorem count_step {σ : RS} {k : Nat} (hk : k < σ.L.length) : ((σ.L.take (k + 1)).countP fun e => !e.dropped) = ((σ.L.take k).countP fun e => !e.dropped) + if σ.there (k : Int) then 1 else 0 := by
  have e1 : σ.at_ k = σ.L[k] := by unfold RS.at_; rw [List.getD_eq_getElem?_getD, List.getElem?_eq_getElem hk]; rfl
  rw [there_nat hk, e1, List.take_add_one, List.getElem?_eq_getElem hk, List.countP_append]
  simp [List.countP_cons]
set_option maxHeartbeats 16000000 in
set_option maxRecDepth 100000 in
theorem livelaw_any (w : World) (hT : TB w) (cp : Nat) (hcp : cp < 256) {A : Option Addr} {n c : Nat} {l : List Act'} (hA : ActsAt w A n l) :
    Calls Tryd.prog 6 #[.int .u8 cp, .slice A n c] w fun e w' => e = .returned (.bool true) ∧ Since w.heap.size w w' := by
  have HS := Lib.hid (sanity_any w)
  have HP := Lib.hid (fun (W : World) (hk : Since w.heap.size w W) => play_any W (hT.since hk hT.pos) cp hcp (cap := c) (hA.since hk (Nat.le_refl _)) 25 (by omega))
  clear hA hT
  go_enter Tryd.func6, Tryd.ntmps6
  go_wp2_with fail
  ((with_reducible refine HS.out.mono ?_); rintro e w1 ⟨rfl, hs⟩)
  have H01 := Lib.hid hs
  clear hs HS
  go_wp2_with fail
  ((refine (show Calls Tryd.prog _ #[_, _, .int .i64 25] w1 _ from HP.out w1 H01.out).mono ?_); rintro e w2 ⟨p, q, ρ, rfl, hp, hl⟩)
  have HL1 := Lib.hid (pLiveC hp)
  have OK := Lib.hid hp.ok
  clear hp HP
  obtain ⟨N, hN⟩ : ∃ N, ρ.L.length = N := ⟨_, rfl⟩
  obtain ⟨K, hK⟩ : ∃ K, ρ.inn.length = K := ⟨_, rfl⟩
  have hK4 : K ≤ 4 := by have := OK.out.cpus; omega
  rw [hN] at hl
  obtain ⟨L, hL⟩ : ∃ L, liveL ρ.abs.all = L := ⟨_, rfl⟩
  have hLn : L.length ≤ N := by rw [← hL, RS.live_abs, List.length_map, ← hN]; exact List.length_filter_le ..
  rw [hL] at HL1
  obtain ⟨M1, hM1⟩ : ∃ M1, L.length = M1 := ⟨_, rfl⟩
  rw [hM1] at hLn HL1
  have HM1 := Lib.hid hM1
  clear hM1
  have HLL := Lib.hid hL
  have NN := Lib.hid hN
  have KK := Lib.hid hK
  clear hL hN hK
  go_wp2_with fail
  ((with_reducible refine HL1.out.mono ?_); rintro e w3 ⟨B, cb, D, rfl, hp3, hI⟩)
  have HI := Lib.hid hI
  have P3 := Lib.hid (show LvV w1.heap.size w1 p q ρ D ρ w3 from ⟨hp3, OK.out, rfl, rfl⟩)
  clear hp3 hI HL1
  go_wp2_with fail
  go_loopw [34] (fun i wr => ∃ k : Nat, k ≤ M1 ∧ i = .int .i64 (k : Int) ∧ ∃ σ : RS, Hid (LvV w1.heap.size w1 p q ρ D σ wr)) (fun i _ => M1 + 1 - (RowKit.intOf i).toNat)
  case atStart => exact ⟨0, Nat.zero_le _, rfl, ρ, P3⟩
  case round =>
    obtain ⟨k, hk, rfl, σ, PP⟩ := hrel
    obtain ⟨wo, rfl⟩ : ∃ wo : World, wo = wr := ⟨_, rfl⟩
    clear P3
    by_cases hlt : k < M1
    · have hb : decide (k < M1) = true := by simpa using hlt
      obtain ⟨g, o, rfl, g1⟩ := IntsAt.at_ (HI.out wo (fun x hx => PP.out.1.at_ (b := x.1) (o := x.2) hx)) k hlt
      obtain ⟨i, hi, hiN, hid, hif⟩ := live_there OK.out (x := L.getD k 0) (by rw [HLL.out, List.getD_eq_getElem?_getD, List.getElem?_eq_getElem (by rw [HM1.out]; exact hlt)]; exact List.getElem_mem _)
      rw [hi] at g1
      have HN := Lib.hid (And.intro hiN (And.intro hid hif))
      have HM := Lib.hid (sModule PP.out.1 PP.out.2.1 (i : Int))
      have hth : σ.there (i : Int) = true := by rw [PP.out.2.2.there, there_nat hiN, hid]; rfl
      rw [hth] at HM
      obtain ⟨mb, hmb⟩ : ∃ mb, σ.modB (i : Int) = mb := ⟨_, rfl⟩
      rw [hmb] at HM
      have hi30 : i ≤ 1000 := by rw [NN.out] at hiN; omega
      clear hth hmb hi hid hif hiN
      go_wp2_with fail
      ((with_reducible refine HM.out.mono ?_); rintro ee w4 ⟨⟨x, rfl⟩, hp4⟩)
      have hall := x.all mb
      have hmv : modV mb x = .agg (mcells mb x).toArray := rfl
      have hms : (mcells mb x).toArray.size = 9 := rfl
      have P5 := Lib.hid (show LvV w1.heap.size w1 p q ρ D σ _ from ⟨(hp4.stored 43 z9 (mcells mb x).toArray).less (fun _ h => .tail _ h), PP.out.2⟩)
      obtain ⟨mc, hmc⟩ : ∃ mc, (mcells mb x).toArray = mc := ⟨_, rfl⟩
      rw [hmc] at P5 hall hmv hms
      rw [hmv]
      have RA := Lib.hid hall
      have RS9 := Lib.hid hms
      obtain ⟨u, hu0, hu1⟩ := P5.out.1.hdr
      rw [KK.out] at hu1
      unfold z9 at P5 hu1
      clear hp4 hall hmv hms hmc HM hu0 PP
      go_wp2_with (refine wpList_store_row rfl 43 (.tmp 11) (.tmp 42) rfl w4.heap.size 43 z9 mc rfl rfl (by exact heap_alloc_new _ _) (by rw [RS9.out]; kernel_rfl) (by rw [RS9.out]; rfl) RA.out ?_)
      go_loopw [51] (fun j wr => ∃ m : Nat, m ≤ K ∧ j = .int .i64 (m : Int) ∧ ∃ τ : RS, Hid (LvV w1.heap.size w1 p q ρ D τ wr)) (fun j _ => K + 1 - (RowKit.intOf j).toNat)
      case atStart => exact ⟨0, Nat.zero_le _, rfl, σ, P5⟩
      case round =>
        obtain ⟨m, hm, rfl, τ, QQ⟩ := hrel
        obtain ⟨wx, rfl⟩ : ∃ wx : World, wx = wr := ⟨_, rfl⟩
        clear P5 hu1
        by_cases hlt2 : m < K
        · have hb2 : decide (m < K) = true := by simpa using hlt2
          have HE := Lib.hid (sEnter QQ.out.1 QQ.out.2.1 (m : Int) (i : Int))
          have HOK := Lib.hid (QQ.out.2.1.enter (m : Int) (i : Int))
          have HAL := Lib.hid (QQ.out.2.2.enter (m : Int) (i : Int))
          have hv := enter_live QQ.out.2.2 (i := i) (c := m) (by rw [KK.out]; exact hlt2) HN.out.1 HN.out.2.1 HN.out.2.2
          obtain ⟨R, hR⟩ : ∃ R, τ.enterR (m : Int) (i : Int) = R := ⟨_, rfl⟩
          rw [hR] at HE HOK HAL hv
          clear hR
          obtain ⟨⟨s1, v, τ'⟩, rfl⟩ : ∃ y : Bytes × Int × RS, y = R := ⟨_, rfl⟩
          dsimp only at HE HOK HAL hv
          go_wp2_with fail
          ((with_reducible refine HE.out.mono ?_); rintro ee w5 ⟨rfl, hp5⟩)
          have P6 := Lib.hid (show LvV w1.heap.size w1 p q ρ D τ' w5 from ⟨hp5, HOK.out, HAL.out⟩)
          clear hp5 HE HOK HAL
          rcases hv with rfl | rfl
          · have HLV := Lib.hid (sLeave P6.out.1 P6.out.2.1 (m : Int))
            have HLO := Lib.hid (P6.out.2.1.leave (m : Int))
            have HLA := Lib.hid (P6.out.2.2.leave (m : Int))
            obtain ⟨R, hR⟩ : ∃ R, τ'.leaveR (m : Int) = R := ⟨_, rfl⟩
            rw [hR] at HLV HLO HLA
            clear hR
            obtain ⟨⟨lv, τ2⟩, rfl⟩ : ∃ y : Int × RS, y = R := ⟨_, rfl⟩
            dsimp only at HLV HLO HLA
            go_wp2_with fail
            ((with_reducible refine HLV.out.mono ?_); rintro ee w6 ⟨rfl, hp6⟩)
            have P7 := Lib.hid (show LvV w1.heap.size w1 p q ρ D τ2 w6 from ⟨hp6, HLO.out, HLA.out⟩)
            clear hp6 HLV HLO HLA
            go_wp2_with fail
            exact ⟨⟨m + 1, by omega, by go_num, τ2, P7⟩, by simp [RowKit.intOf]; omega⟩
          · go_wp2_with fail
            exact ⟨⟨m + 1, by omega, by go_num, τ', P6⟩, by simp [RowKit.intOf]; omega⟩
        · have hb2 : decide (m < K) = false := by simpa using hlt2
          go_wp2_with fail
          exact ⟨⟨k + 1, by omega, by go_num, τ, QQ⟩, by simp [RowKit.intOf]; omega⟩
    · have hb : decide (k < M1) = false := by simpa using hlt
      have PZ := Lib.hid (show LvU w1.heap.size w1 p q ρ 0 σ wo from ⟨PP.out.1.less (fun _ h => by cases h), PP.out.2.1, Passed.zero PP.out.2.2⟩)
      obtain ⟨u, hu0, hu1⟩ := PP.out.1.hdr
      rw [KK.out] at hu1
      clear PP hu0 HI
      go_wp2_with fail
      go_loopw [79] (fun j wr => ∃ m : Nat, m ≤ K ∧ j = .int .i64 (m : Int) ∧ ∃ τ : RS, Hid (LvU w1.heap.size w1 p q ρ m τ wr)) (fun j _ => K + 1 - (RowKit.intOf j).toNat)
      case atStart => exact ⟨0, Nat.zero_le _, rfl, σ, PZ⟩
      case round =>
        obtain ⟨m, hm, rfl, τ, QQ⟩ := hrel
        obtain ⟨wx, rfl⟩ : ∃ wx : World, wx = wr := ⟨_, rfl⟩
        clear PZ hu1
        by_cases hlt2 : m < K
        · have hb2 : decide (m < K) = true := by simpa using hlt2
          have HST := Lib.hid (QQ.out.2.2.step (by rw [KK.out]; exact hlt2))
          have HLV := Lib.hid (sLeave QQ.out.1 QQ.out.2.1 (m : Int))
          have HLO := Lib.hid (QQ.out.2.1.leave (m : Int))
          obtain ⟨R, hR⟩ : ∃ R, τ.leaveR (m : Int) = R := ⟨_, rfl⟩
          rw [hR] at HLV HLO HST
          clear hR
          obtain ⟨⟨lv, τ1⟩, rfl⟩ : ∃ y : Int × RS, y = R := ⟨_, rfl⟩
          dsimp only at HLV HLO HST
          go_wp2_with fail
          ((with_reducible refine HLV.out.mono ?_); rintro ee w5 ⟨rfl, hp5⟩)
          have HSF := Lib.hid (sSafe hp5 HLO.out (m : Int))
          have HSO := Lib.hid (HLO.out.safe (m : Int))
          obtain ⟨R, hR⟩ : ∃ R, τ1.safeR (m : Int) = R := ⟨_, rfl⟩
          rw [hR] at HSF HSO HST
          clear hR hp5 HLV HLO
          obtain ⟨⟨sv, τ2⟩, rfl⟩ : ∃ y : Int × RS, y = R := ⟨_, rfl⟩
          dsimp only at HSF HSO HST
          go_wp2_with fail
          ((with_reducible refine HSF.out.mono ?_); rintro ee w6 ⟨rfl, hp6⟩)
          have P7 := Lib.hid (show LvU w1.heap.size w1 p q ρ (m + 1) τ2 w6 from ⟨hp6, HSO.out, HST.out⟩)
          clear hp6 HSF HSO HST
          go_wp2_with fail
          exact ⟨⟨m + 1, by omega, by go_num, τ2, P7⟩, by simp [RowKit.intOf]; omega⟩
        · have hb2 : decide (m < K) = false := by simpa using hlt2
          obtain ⟨u, hu0, hu1⟩ := QQ.out.1.hdr
          rw [NN.out] at hu0
          have hmK : m = ρ.inn.length := by rw [KK.out]; omega
          have hM := (show Passed τ ρ ρ.inn.length by rw [← hmK]; exact QQ.out.2.2).all QQ.out.2.1
          have TN := Lib.hid (QQ.out.2.2.len.trans NN.out)
          have TM := Lib.hid hM
          have TOK := Lib.hid QQ.out.2.1
          have P0 := Lib.hid QQ.out.1
          clear QQ hu1 hmK hM
          go_wp2_with fail
          go_loopw [17, 94] (fun a i wr => ∃ k cn : Nat, k ≤ N ∧ cn ≤ k ∧ i = .int .i64 (k : Int) ∧ a = .int .i64 (cn : Int) ∧ Hid (PQ w1.heap.size w1 p q τ.abs ρ [] wr ∧ cn = (τ.L.take k).countP fun e => !e.dropped)) (fun _ i _ => N + 1 - (RowKit.intOf i).toNat)
          case atStart => exact ⟨0, 0, Nat.zero_le _, Nat.zero_le _, rfl, rfl, Lib.hid ⟨P0.out, rfl⟩⟩
          case round =>
            obtain ⟨k2, cn, hk2, hcn, rfl, rfl, RR⟩ := hrel
            obtain ⟨wy, rfl⟩ : ∃ wy : World, wy = wr := ⟨_, rfl⟩
            clear P0 hu0
            by_cases hlt3 : k2 < N
            · have hb3 : decide (k2 < N) = true := by simpa using hlt3
              have HM := Lib.hid (sModule RR.out.1 TOK.out (k2 : Int))
              have HCS := Lib.hid (count_step (σ := τ) (k := k2) (by rw [TN.out]; exact hlt3))
              obtain ⟨th, hth⟩ : ∃ th, τ.there (k2 : Int) = th := ⟨_, rfl⟩
              obtain ⟨mb, hmb⟩ : ∃ mb, τ.modB (k2 : Int) = mb := ⟨_, rfl⟩
              rw [hth, hmb] at HM
              rw [hth, ← RR.out.2] at HCS
              clear hth hmb
              go_wp2_with fail
              ((with_reducible refine HM.out.mono ?_); rintro ee w4 ⟨⟨x, rfl⟩, hp4⟩)
              have hall := x.all mb
              have hmv : modV mb x = .agg (mcells mb x).toArray := rfl
              have hms : (mcells mb x).toArray.size = 9 := rfl
              have P5 := Lib.hid (show PQ w1.heap.size w1 p q τ.abs ρ [] _ from (hp4.stored 43 z9 (mcells mb x).toArray).less (fun _ h => by cases h))
              obtain ⟨mc, hmc⟩ : ∃ mc, (mcells mb x).toArray = mc := ⟨_, rfl⟩
              rw [hmc] at P5 hall hmv hms
              rw [hmv]
              have RA := Lib.hid hall
              have RS9 := Lib.hid hms
              unfold z9 at P5
              clear hp4 hall hmv hms hmc HM RR
              cases th with
              | true =>
                go_wp2_with (refine wpList_store_row rfl 43 (.tmp 19) (.tmp 101) rfl w4.heap.size 43 z9 mc rfl rfl (by exact heap_alloc_new _ _) (by rw [RS9.out]; kernel_rfl) (by rw [RS9.out]; rfl) RA.out ?_)
                exact ⟨⟨k2 + 1, cn + 1, by omega, by omega, by go_num, by go_num, Lib.hid ⟨P5.out, HCS.out.symm⟩⟩, by simp [RowKit.intOf]; omega⟩
              | false =>
                go_wp2_with (refine wpList_store_row rfl 43 (.tmp 19) (.tmp 101) rfl w4.heap.size 43 z9 mc rfl rfl (by exact heap_alloc_new _ _) (by rw [RS9.out]; kernel_rfl) (by rw [RS9.out]; rfl) RA.out ?_)
                exact ⟨⟨k2 + 1, cn, by omega, by omega, by go_num, rfl, Lib.hid ⟨P5.out, HCS.out.symm⟩⟩, by simp [RowKit.intOf]; omega⟩
            · have hb3 : decide (k2 < N) = false := by simpa using hlt3
              have hcm : (liveL τ.abs.all).length = cn := by rw [TM.out, RR.out.2, List.take_of_length_le (by rw [TN.out]; omega)]
              have HL3 := Lib.hid (pLive RR.out.1)
              rw [hcm] at HL3
              clear hcm RR
              go_wp2_with fail
              ((with_reducible refine HL3.out.mono ?_); rintro e w8 ⟨⟨A3, c3, rfl, _⟩, hp8, _⟩)
              have P8 := Lib.hid hp8
              clear hp8 HL3
              go_wp2_with fail
              go_ret
              exact ⟨rfl, Keep.trans H01.out (Since.mono P8.out.since H01.out.size)⟩
theorem live_walk (x : Int) (hx : 0 ≤ x ∧ x ≤ 255) (A : Option Addr) (n c : Nat) (l : List Act') (w : World) (hA : ActsAt w A n l) (hT : TB w) :
    Calls Tryd.prog 6 #[.int .u8 x, .slice A n c] w fun e w' => e = .returned (.bool true) ∧ Below w.heap.size w w' := by
  obtain ⟨m, rfl⟩ : ∃ m : Nat, x = (m : Int) := ⟨x.toNat, by omega⟩
  refine (livelaw_any w hT m (by omega) hA).mono ?_
  rintro e w' ⟨h1, h2⟩
  exact ⟨h1, below_since h2 rfl⟩
set_option maxRecDepth 100000 in
theorem live_lifted (os : Os) (started : os.Started) (H : Type) (enc : TypeId × Value → H) :
    ReturnsInHanded {} Tryd.checked os 6 .any (fun w args => (Rows.installLiveSpec.pre enc Tryd.prog Tryd.f6 Rows.installLiveRow.domain false w args ∧ laidMet Tryd.prog Rows.installLiveRow.laid w) ∧ sizedMet enc Tryd.prog Tryd.f6 (OpenSpec.ofChange Rows.installLiveSpec) false w args) (Rows.installLiveSpec.post enc Tryd.prog Tryd.f6 false true false false) := by
  refine law_lift_laid (C := Tryd.checked) (X := fun w _ => laidMet Tryd.prog tabs w) (fun _ _ _ hh h => h.of_heap hh) Tryd.own started (by kernel_rfl) Tryd.func6
    (ChangeSpec.witness_at (enc := enc) (C := Tryd.checked) (os := os) (X := fun w _ => laidMet Tryd.prog tabs w) false (laidWorld os) #[.int .u8 0, .slice none 0 0] 8 rfl (by kernel_rfl) (by kernel_rfl) (by kernel_rfl) (by kernel_rfl) (by kernel_rfl) (laidWorld_met os _))
    Tryd.laidOut (by kernel_rfl) rfl rfl Tryd.underlying4 ?_ ?_
  · intro ds hl
    match ds, hl with
    | [d1, d2], _ => exact ⟨rfl, rfl, rfl⟩
  · intro W base args ds p hval0 hA0 hlt hsz0 hL
    have hval : ∀ (j : Nat) t v, Tryd.f6.params[j]? = some t → args[j]? = some v → Value.okWide Tryd.prog W .any base t v := hval0
    have hA : DataW.TrodAll enc Tryd.prog W 0 (fun _ => true) true Tryd.f6.params.toList args.toList ds p := hA0
    have hsz : (DataW.weightsEach Tryd.prog Tryd.f6.params.toList ds).all (· ≤ reachBytes) = true := hsz0
    rw [Tryd.params6] at hA hval hsz
    clear hA0 hval0 hsz0
    obtain ⟨v0, v1, d0, d1, p0, p1, rfl, rfl, rfl, h0, h1⟩ := trodAll_two hA
    have hlt0 : ∀ x ∈ p0, x.block < W.heap.size := fun x hx => hlt x (by simp [hx])
    have hlt1 : ∀ x ∈ p1, x.block < W.heap.size := fun x hx => hlt x (by simp [hx])
    obtain ⟨x, rfl, rfl, rfl, wx⟩ := open_int Tryd.underlying5 (hval 0 5 v0 rfl rfl) h0
    obtain ⟨Al, nl, cl, l, rfl, il⟩ := open_acts Tryd.underlying22 Tryd.underlying69 (by kernel_rfl) (by kernel_rfl) Tryd.underlying3 Tryd.underlying3 Tryd.underlying3 (hval 1 22 v1 rfl rfl) h1 hlt1
    exact live_walk x (bd_u8 wx) Al nl cl l W il (tb_of_laid hL)

/-- The row. -/
theorem live_row : Rows.InstallLiveSaid :=
  OpenClaim.holds_of_wide 6 Tryd.f6 rfl rfl rfl rfl rfl rfl rfl ⟨rfl, rfl, rfl, rfl, rfl⟩ rfl rfl rfl rfl rfl (by kernel_rfl) Tryd.func6 (by kernel_rfl)
    (of_decide_eq_true (by kernel_rfl)) (by unfold Func.isWrapper; first | (rw [if_pos (by decide +kernel)]; kernel_rfl) | (rw [if_neg (by decide +kernel)]; exact ⟨rfl, rfl⟩))
    (fun os started H enc _ => live_lifted os started H enc)
/-- The statement: the tied card. -/
theorem live_holds : Rows.InstallLiveCardSaid :=
  Claim7.holds_tied_plain_at .later [] [.data, .data, .data] true (true, "5af076ab2390d91f9d095ba662174c590b4b6eb6aef3ce95ba3380a4cb301d37") false
    live_row (fun _ h => by cases h) (by kernel_rfl) (fun _ h => by cases h) installLive_row_tie rfl ⟨rfl, rfl⟩ (by kernel_rfl) rfl
    (fun f fn hf hfn => by
      obtain rfl : f = 6 := Option.some.inj ((show Tryd.prog.funcNamed "facsimile/facsimilelaw28.InstallLive" = some 6 by kernel_rfl).symm.trans hf) |>.symm
      obtain rfl : fn = Tryd.f6 := (Option.some.inj (Tryd.func6.symm.trans hfn)).symm
      exact ⟨by kernel_rfl, fun j t ht => by
        have h := List.all_eq_true.1 (show (Tryd.f6.params.toList.all fun t => !Tryd.prog.wantsStandIn t) = true by kernel_rfl) t (List.mem_of_getElem? (by simpa using ht))
        exact (show Tryd.prog.wantsStandIn t = false by simpa using h)⟩)
    (by kernel_rfl)
#print axioms live_holds
end Go.Proofs.YtnhajhejkecihaaDoor
