/- InstallApart: a patch of one module changes no other: for every number of processors, every list of calls and every choice the law returns true. -/
import Derived.Test.YtnhajhejkecihaaDoorMG
import Derived.BigQuiet
import Derived.Lib.ConvBytes
import Derived.Laws.IdiomStrings
import Derived.Laws.Concat
namespace Go.Proofs.YtnhajhejkecihaaDoor
open Go.ChangeShapes Go.WideShapes Go.ChangeAt Go.RowKit
set_option linter.unusedVariables false
set_option linter.unusedSimpArgs false

/-- What the modules hold. -/
def befores (ρ : RS) (k : Nat) : List Bytes := (List.range k).map fun j : Nat => ρ.modB (j : Int)
theorem befores_succ (ρ : RS) (k : Nat) : befores ρ (k + 1) = befores ρ k ++ [ρ.modB (k : Int)] := by
  unfold befores
  rw [List.range_succ, List.map_append]
  rfl
theorem befores_at (ρ : RS) {k N : Nat} (h : k < N) : (strs (befores ρ N)).getD k undef = .string (sb (ρ.modB (k : Int))) := by
  unfold befores strs
  simp [List.getD_eq_getElem?_getD, List.getElem?_map, List.getElem?_range h]
theorem one_str (mb : Bytes) (W : World) (g : Nat) (e : W.heap.size = g) : CellsAt (W.alloc (.cells #[.string (sb mb)] 9)) (some ⟨g, 0, none⟩) 1 (strs [mb]) := by
  subst e
  exact cells_new W [.string (sb mb)] 9 (by simp)
theorem conv_one (w : World) (z : Nat) (hz : z < 256) : (convert 53 9 (.slice (some ⟨w.heap.size, 0, none⟩) 1 1)).run Tryd.prog (w.alloc (.cells #[.int .u8 z] 5)) = .ok (.string (sb [UInt8.ofNat z])) (w.alloc (.cells #[.int .u8 z] 5)) :=
  run_convert_bytes_back (w.alloc (.cells #[.int .u8 z] 5)) 53 9 5 ⟨w.heap.size, 0, none⟩ 1 [UInt8.ofNat z] Tryd.underlying53 Tryd.underlying5 Tryd.underlying9 (fun j hj => by
    obtain rfl : j = 0 := by simpa using hj
    rw [Addr.add_lit, blk_cell (heap_alloc_new w _)]
    simp
    omega)
theorem sb_join (a b : Bytes) : sb a ++ sb b = sb (a ++ b) := by
  rw [← sb_bs (sb a ++ sb b)]
  have : bs (sb a ++ sb b) = bs (sb a) ++ bs (sb b) := by simp [bs, ByteArray.data_append]
  rw [this, bs_sb, bs_sb]
theorem modB_len {ρ : RS} (ok : ρ.Ok) (id : Int) : (ρ.modB id).length ≤ 4096 := by
  unfold RS.modB
  by_cases h : ρ.there id = true
  · rw [if_pos h]
    obtain ⟨i, rfl, hi, _⟩ := RS.there_at h
    have := (ok.size (ρ.at_ i) (by unfold RS.at_; rw [List.getD_eq_getElem?_getD, List.getElem?_eq_getElem hi]; exact List.getElem_mem hi)).2
    rw [Int.toNat_natCast]
    unfold ME.stop lns at this
    omega
  · rw [if_neg h]; simp
theorem sb_tail (b : UInt8) (br : Bytes) : (sb (b :: br)).extract 1 (sb (b :: br)).size = sb br := by
  rw [← sb_bs ((sb (b :: br)).extract 1 (sb (b :: br)).size), bs_drop]
  rfl
set_option maxHeartbeats 16000000 in
set_option maxRecDepth 100000 in
theorem apart_any (w : World) (hT : TB w) (cp : Nat) (hcp : cp < 256) {A : Option Addr} {n c : Nat} {l : List Act'} (hA : ActsAt w A n l) (y z : Nat) (hy : y < 256) (hz : z < 256) :
    Calls Tryd.prog 5 #[.int .u8 cp, .slice A n c, .agg #[.int .u8 y, .int .u8 z]] w fun e w' => e = .returned (.bool true) ∧ Since w.heap.size w w' := by
  have hka := (Keep.refl (fun _ => False) w).alloc' (.cells #[.int .u8 y, .int .u8 z] 50)
  have HW := Lib.hid (show Since w.heap.size w (w.alloc (.cells #[.int .u8 y, .int .u8 z] 50)) from Since.of hka)
  have HS := Lib.hid (sanity_any (w.alloc (.cells #[.int .u8 y, .int .u8 z] 50)))
  have HP := Lib.hid (fun (W : World) (hk : Since w.heap.size w W) => play_any W (hT.since hk hT.pos) cp hcp (cap := c) (hA.since hk (Nat.le_refl _)) 25 (by omega))
  clear hA hT
  go_enter Tryd.func5, Tryd.ntmps5
  go_wp2_with fail
  ((with_reducible refine HS.out.mono ?_); rintro e w1 ⟨rfl, hs⟩)
  have hw1 : w.heap.size < w1.heap.size := by have := hs.size; rw [World.size_alloc] at this; omega
  have C1 := Lib.hid (show w1.heap[w.heap.size]? = some (.cells #[.int .u8 y, .int .u8 z] 50 (0, 0)) from (hs.block _ (by rw [World.size_alloc]; omega) (by rw [World.size_alloc]; omega)).trans (heap_alloc_new w _))
  have H01 := Lib.hid (show Since w.heap.size w w1 from Keep.trans HW.out (Since.mono hs (by rw [World.size_alloc]; omega)))
  obtain ⟨bx, hbx⟩ : ∃ bx, w.heap.size = bx := ⟨_, rfl⟩
  rw [hbx] at C1 hw1
  have BX := Lib.hid hbx
  clear hs HS hka HW
  go_wp2_with fail
  ((refine (show Calls Tryd.prog _ #[_, _, .int .i64 25] w1 _ from HP.out w1 H01.out).mono ?_); rintro e w2 ⟨p, q, ρ, rfl, hp, hl⟩)
  have P2 := Lib.hid hp
  have OK := Lib.hid hp.ok
  obtain ⟨u, hu0, hu1⟩ := hp.hdr
  have KB := Lib.hid (fun (W : World) (hk : Since w1.heap.size w1 W) => (show W.cell? ⟨bx, 0, none⟩ = some (.int .u8 y) ∧ W.cell? ⟨bx, 1, none⟩ = some (.int .u8 z) from by
    have := (hk.block bx hw1 (by omega)).trans C1.out
    exact ⟨(blk_cell this 0).trans rfl, (blk_cell this 1).trans rfl⟩))
  obtain ⟨k1, k2⟩ := KB.out w2 hp.since
  clear hp HP hu1 C1
  obtain ⟨N, hN⟩ : ∃ N, ρ.L.length = N := ⟨_, rfl⟩
  rw [hN] at hu0 hl
  have NN := Lib.hid hN
  clear hN
  by_cases h0 : N = 0
  · subst h0
    go_wp2_with fail
    go_ret
    exact ⟨rfl, Keep.trans H01.out (Since.mono P2.out.since H01.out.size)⟩
  · have hb : decide (N = 0) = false := by simpa using h0
    have hNz : ((N : Int) == 0) = false := by simpa using h0
    have htm : (y : Int).tmod (N : Int) = ((y % N : Nat) : Int) := by rw [Int.tmod_eq_emod_of_nonneg (by omega)]; simp
    go_wp2_with fail
    go_quiet (fail)
    have hI' : (y : Int) % (N : Int) = ((y % N : Nat) : Int) := by simp
    obtain ⟨I, hI⟩ : ∃ I, y % N = I := ⟨_, rfl⟩
    have hIN : I < N := by rw [← hI]; exact Nat.mod_lt _ (by omega)
    rw [hI', hI]
    obtain ⟨w3, hw3⟩ : ∃ w3, w2.drewN nq = w3 := ⟨_, rfl⟩
    have P3 := Lib.hid (P2.out.quiet (show Keep (fun _ => False) w2 w3 by rw [← hw3]; exact keep_drewN _ w2 nq))
    rw [hw3]
    obtain ⟨u', hu0', hu1'⟩ := P3.out.hdr
    rw [NN.out] at hu0'
    clear hI' hI hw3 hu0 k1 k2 htm hb hNz P2 hu1'
    go_wp2_with fail
    have PX := Lib.hid (show Since w3.heap.size w3 w3 ∧ w3.ownsRow w3.heap.size 9 1 (.slice none 0 0) 0 (strs []) from ⟨Keep.refl _ _, rfl, .inl ⟨rfl, rfl⟩⟩)
    go_loopw [12, 59] (fun a i wr => ∃ (k c : Nat) (R : Option Addr), k ≤ N ∧ i = .int .i64 (k : Int) ∧ a = .slice R k c ∧ Hid (Since w3.heap.size w3 wr ∧ wr.ownsRow w3.heap.size 9 1 (.slice R k c) k (strs (befores ρ k)))) (fun _ i _ => N + 1 - (RowKit.intOf i).toNat)
    case atStart => exact ⟨0, 0, none, Nat.zero_le _, rfl, rfl, PX⟩
    case round =>
      obtain ⟨k, c, R, hk, rfl, rfl, PP⟩ := hrel
      obtain ⟨wo, rfl⟩ : ∃ wo : World, wo = wr := ⟨_, rfl⟩
      clear PX
      by_cases hlt : k < N
      · have hb : decide (k < N) = true := by simpa using hlt
        have HM := Lib.hid (pModule (P3.out.later PP.out.1) OK.out (k : Int))
        go_wp2_with fail
        ((with_reducible refine HM.out.mono ?_); rintro ee w4 ⟨⟨x, rfl⟩, hs4⟩)
        have hk5 : Since wo.heap.size wo ((w4.alloc (.cells z9 43)).setRow w4.heap.size (mcells (ρ.modB (k : Int)) x).toArray) := Keep.trans hs4 (Keep.trans (Since.of ((Keep.refl (fun _ => False) w4).alloc' _)) (Keep.mono setRow_keep (fun i e => by have := hs4.size; omega)))
        have HO5 := Lib.hid (hk5.own PP.out.2 (fun b e => by have := own_lt PP.out.2 b e; omega))
        have HK5 := Lib.hid (Keep.trans PP.out.1 (Since.mono hk5 PP.out.1.size))
        have h34 : w3.heap.size ≤ ((w4.alloc (.cells z9 43)).setRow w4.heap.size (mcells (ρ.modB (k : Int)) x).toArray).heap.size := Nat.le_trans PP.out.1.size hk5.size
        have hcb := copied (w := w4) 43 z9 (mcells (ρ.modB (k : Int)) x).toArray
        have hall := x.all (ρ.modB (k : Int))
        have hmv : modV (ρ.modB (k : Int)) x = .agg (mcells (ρ.modB (k : Int)) x).toArray := rfl
        have q2 : ((w4.alloc (.cells z9 43)).setRow w4.heap.size (mcells (ρ.modB (k : Int)) x).toArray).cell? ⟨w4.heap.size, 2, none⟩ = some (.string (sb (ρ.modB (k : Int)))) := (blk_cell hcb 2).trans rfl
        have hms : (mcells (ρ.modB (k : Int)) x).toArray.size = 9 := rfl
        have BS := Lib.hid (befores_succ ρ k)
        obtain ⟨mc, hmc⟩ : ∃ mc, (mcells (ρ.modB (k : Int)) x).toArray = mc := ⟨_, rfl⟩
        rw [hmc] at HO5 HK5 hall hmv q2 hms h34
        rw [hmv]
        obtain ⟨mb, hmb⟩ : ∃ mb, ρ.modB (k : Int) = mb := ⟨_, rfl⟩
        rw [hmb] at q2 BS
        have RA := Lib.hid hall
        have RS9 := Lib.hid hms
        unfold z9 at HO5 HK5 q2 h34
        clear hs4 hk5 hcb hall hmv hms hmc hmb HM
        go_wp2_with (first
          | (refine wpList_store_row rfl 43 (.tmp 14) (.tmp 66) rfl w4.heap.size 43 z9 mc rfl rfl (by exact heap_alloc_new _ _) (by rw [RS9.out]; kernel_rfl) (by rw [RS9.out]; rfl) RA.out ?_)
          | (at_builtin; refine wpList_append_src 51 9 (.string ⟨#[]⟩) 16 w3.heap.size Tryd.strsTy _ _ rfl rfl (.slice R k c) k (strs (befores ρ k)) rfl ?_ _ 1 1 (strs [mb]) rfl (by intro h; cases h) ?_ (strs_one _) ?_ ?_ ?_ ?_))
        · exact HO5.out.alloc _
        · exact one_str mb _ _ (by simp)
        · omega
        · decide
        · (rw [World.size_alloc]; exact Nat.le_succ_of_le h34)
        intro v' w6 hown hgrow hnil hob
        obtain ⟨A', c', rfl⟩ := own_slice hown
        rw [strs_snoc] at hown
        have PN := Lib.hid (show Since w3.heap.size w3 w6 ∧ w6.ownsRow w3.heap.size 9 1 (.slice A' (k + 1) c') (k + 1) (strs (befores ρ (k + 1))) from ⟨Keep.trans HK5.out (Keep.trans (Since.of ((Keep.refl (fun _ => False) _).alloc' _)) (Keep.mono (own_keep' hgrow) (fun i e => own_low HO5.out e))), by rw [BS.out]; exact hown⟩)
        clear hown hgrow hnil hob
        go_wp2_with fail
        exact ⟨⟨k + 1, c', A', by omega, by go_num, by go_num, PN⟩, by simp [RowKit.intOf]; omega⟩
      · have hb : decide (k < N) = false := by simpa using hlt
        obtain rfl : N = k := by omega
        obtain ⟨D, hpD, hD⟩ := P3.out.held PP.out.1 PP.out.2
        have HD := Lib.hid hD
        obtain ⟨zb, hzb⟩ : ∃ zb, UInt8.ofNat z = zb := ⟨_, rfl⟩
        have hcv := conv_one wo z hz
        rw [hzb] at hcv
        have HZB := Lib.hid hzb
        obtain ⟨k1, k2⟩ := KB.out wo hpD.since
        have HPT := Lib.hid (sPatch (hpD.quiet ((Keep.refl (fun _ => False) wo).alloc' (.cells #[.int .u8 z] 5))) OK.out (I : Int) 0 [zb] (by omega) (by simp))
        have HPO := Lib.hid (OK.out.patch (I : Int) 0 [zb])
        have HPB := Lib.hid (fun j => patch_bytes OK.out (i := I) (by rw [NN.out]; exact hIN) zb j)
        obtain ⟨R0, hR⟩ : ∃ R0, ρ.patchR (I : Int) 0 [zb] = R0 := ⟨_, rfl⟩
        rw [hR] at HPT HPO HPB
        clear hR
        obtain ⟨⟨v, σ1⟩, rfl⟩ : ∃ y : Int × RS, y = R0 := ⟨_, rfl⟩
        dsimp only at HPT HPO HPB
        clear PP hpD hD hzb
        go_wp2_with fail
        ((with_reducible refine HPT.out.mono ?_); rintro ee w5 ⟨rfl, hp5⟩)
        have P5 := Lib.hid (show PQ w1.heap.size w1 p q σ1.abs ρ D w5 ∧ σ1.Ok ∧ Sa σ1 σ1 from ⟨hp5, HPO.out, Sa.refl _⟩)
        obtain ⟨u2, hu2, hu3⟩ := P5.out.1.hdr
        rw [NN.out] at hu2
        clear hp5 HPT k1 k2 hcv hu3
        go_wp2_with fail
        go_loopw [86] (fun i wr => ∃ k : Nat, k ≤ N ∧ i = .int .i64 (k : Int) ∧ ∃ σ : RS, Hid (PQ w1.heap.size w1 p q σ.abs ρ D wr ∧ σ.Ok ∧ Sa σ σ1)) (fun i _ => N + 1 - (RowKit.intOf i).toNat)
        case atStart => exact ⟨0, Nat.zero_le _, rfl, σ1, P5⟩
        case round =>
          obtain ⟨k, hk, rfl, σ, PP⟩ := hrel
          obtain ⟨wy, rfl⟩ : ∃ wy : World, wy = wr := ⟨_, rfl⟩
          clear P5 hu2
          by_cases hlt3 : k < N
          · have hb3 : decide (k < N) = true := by simpa using hlt3
            have HM := Lib.hid (sModule PP.out.1 PP.out.2.1 (k : Int))
            obtain ⟨th, hth⟩ : ∃ th, σ.there (k : Int) = th := ⟨_, rfl⟩
            obtain ⟨mb, hmb⟩ : ∃ mb, σ.modB (k : Int) = mb := ⟨_, rfl⟩
            rw [hth, hmb] at HM
            have HMB := Lib.hid hmb
            clear hth hmb
            go_wp2_with fail
            ((with_reducible refine HM.out.mono ?_); rintro ee w6 ⟨⟨x, rfl⟩, hp6⟩)
            have P4 := Lib.hid (show PQ w1.heap.size w1 p q σ.abs ρ ((w6.heap.size, .cells (mcells mb x).toArray 43 (0, 0)) :: D) _ ∧ σ.Ok ∧ Sa σ σ1 from ⟨hp6.stored 43 z9 (mcells mb x).toArray, PP.out.2⟩)
            have hcb := copied (w := w6) 43 z9 (mcells mb x).toArray
            have hall := x.all mb
            have hmv : modV mb x = .agg (mcells mb x).toArray := rfl
            have q2 : ((w6.alloc (.cells z9 43)).setRow w6.heap.size (mcells mb x).toArray).cell? ⟨w6.heap.size, 2, none⟩ = some (.string (sb mb)) := (blk_cell hcb 2).trans rfl
            have hms : (mcells mb x).toArray.size = 9 := rfl
            have hm2 : (mcells mb x).toArray[2]? = some (.string (sb mb)) := rfl
            obtain ⟨mc, hmc⟩ : ∃ mc, (mcells mb x).toArray = mc := ⟨_, rfl⟩
            rw [hmc] at P4 hall hmv q2 hms hm2
            have HM2 := Lib.hid hm2
            rw [hmv]
            have RA := Lib.hid hall
            have RS9 := Lib.hid hms
            obtain ⟨g, o, rfl, ga⟩ := CellsAt.at_ (HD.out _ (fun y hy => P4.out.1.at_ (b := y.1) (o := y.2) (.tail _ hy))) k hlt3
            rw [befores_at ρ hlt3] at ga
            obtain ⟨k1, k2⟩ := KB.out _ P4.out.1.since
            unfold z9 at P4 q2 ga k1 k2
            obtain ⟨b0, hb0⟩ : ∃ b0, ρ.modB (k : Int) = b0 := ⟨_, rfl⟩
            rw [hb0] at ga
            clear hp6 hcb hall hmv hms hm2 hmc HM PP
            by_cases hkI : k = I
            · obtain rfl : k = I := hkI
              by_cases hv : v = 0
              · obtain ⟨g1, g2⟩ := (HPB.out k).2 hv
                rw [hb0] at g1 g2
                have hmz : mb = zb :: b0.drop 1 := by rw [← HMB.out, P4.out.2.2.2, g2]
                obtain ⟨b1, br, rfl⟩ : ∃ b1 br, b0 = b1 :: br := by
                  cases b0 with
                  | nil => exact absurd rfl g1
                  | cons b1 br => exact ⟨b1, br, rfl⟩
                have hmz2 : mb = [zb] ++ br := hmz
                subst hv
                have HMS := Lib.hid (show σ1.modB (k : Int) = mb by rw [← P4.out.2.2.2, HMB.out])
                have hne : (sb (b1 :: br)).toList.isEmpty = false := sb_empty (by simp)
                go_wp2_with (refine wpList_store_row rfl 43 (.tmp 18) (.tmp 93) rfl w6.heap.size 43 z9 mc rfl rfl (by exact heap_alloc_new _ _) (by rw [RS9.out]; kernel_rfl) (by rw [RS9.out]; rfl) RA.out ?_)
                obtain ⟨wq, hwq⟩ : ∃ wq : World, ((w6.alloc (.cells #[.int .i64 0, .int .i64 0, .string ⟨#[]⟩, .slice none 0 0, .slice none 0 0, .slice none 0 0, .int .i64 0, .int .i64 0, .slice none 0 0] 43)).setRow w6.heap.size mc) = wq := ⟨_, rfl⟩
                rw [hwq] at P4 q2 ga k1 k2
                rw [hwq]
                have hcv : (convert 53 9 (.slice (some ⟨wq.heap.size, 0, none⟩) 1 1)).run Tryd.prog (wq.alloc (.cells #[.int .u8 z] 5)).drew = .ok (.string (sb [zb])) (wq.alloc (.cells #[.int .u8 z] 5)).drew := by
                  rw [← HZB.out]
                  exact conv_one wq.drew z hz
                have hsz : ((1 : Int) ≤ ((sb (b1 :: br)).size : Int)) = True := by rw [sb_size, List.length_cons]; exact eq_true (by omega)
                have hbr : br.length ≤ 4096 := by
                  have := modB_len OK.out (k : Int)
                  rw [hb0, List.length_cons] at this
                  omega
                have hsum : (9223372036854775807 < (sb [zb]).size + (sb br).size) = False := by
                  rw [sb_size, sb_size]
                  exact eq_false (by simp; omega)
                have happ : sb [zb] ++ sb br = sb (zb :: br) := sb_join [zb] br
                clear hbr
                have hex : (sb (b1 :: br)).extract 1 (sb (b1 :: br)).size = sb br := sb_tail b1 br
                have Q2 := Lib.hid q2
                have GA := Lib.hid ga
                have K2 := Lib.hid k2
                clear q2 ga k1 k2 hwq g1 g2 hmz
                refine wp_region_drewU (S := (fun w' => Hid (Keep (fun _ => False) wq w'))) (D := []) (by kernel_rfl) (by exact Lib.hid (keep_draw _ wq)) (fun hH => ?_)
                refine wpAnyU_take (i := 0) (v := ?_) rfl (by kernel_rfl) (by kernel_rfl) (by kernel_rfl) (by kernel_rfl) (fun _ _ _ h => h) (Or.inl ⟨by rfl, ?_⟩) hH ?_
                rotate_left
                · (intro w'' hSw; (try dsimp only at hSw); go_simp; try with_reducible rfl)
                change wpAnyU _ _ _ _ _ _ _ _ (Act.put _ (some 109) _) _
                try simp only [Act.put, List.setIfInBounds_toArray, List.set_cons_zero, List.set_cons_succ]
                refine wpAnyU_take (i := 1) (v := ?_) rfl (by kernel_rfl) (by kernel_rfl) (by kernel_rfl) (by kernel_rfl) (fun _ _ _ h => h) (Or.inl ⟨by rfl, ?_⟩) hH ?_
                rotate_left
                · (intro w'' hSw; (try dsimp only at hSw); go_simp; try with_reducible rfl)
                change wpAnyU _ _ _ _ _ _ _ _ (Act.put _ (some 110) _) _
                try simp only [Act.put, List.setIfInBounds_toArray, List.set_cons_zero, List.set_cons_succ]
                refine wpAnyU_take (i := 2) (v := ?_) rfl (by kernel_rfl) (by kernel_rfl) (by kernel_rfl) (by kernel_rfl) (fun _ _ _ h => h) (Or.inl ⟨by rfl, ?_⟩) hH ?_
                rotate_left
                · (intro w'' hSw; (try dsimp only at hSw); go_simp; try with_reducible rfl)
                change wpAnyU _ _ _ _ _ _ _ _ (Act.put _ (some 111) _) _
                try simp only [Act.put, List.setIfInBounds_toArray, List.set_cons_zero, List.set_cons_succ]
                refine wpAnyU_take (i := 3) (v := ?_) rfl (by kernel_rfl) (by kernel_rfl) (by kernel_rfl) (by kernel_rfl) (fun _ _ _ h => h) (Or.inl ⟨by rfl, ?_⟩) hH ?_
                rotate_left
                · (intro w'' hSw; (try dsimp only at hSw); go_simp; try with_reducible rfl)
                change wpAnyU _ _ _ _ _ _ _ _ (Act.put _ (some 112) _) _
                try simp only [Act.put, List.setIfInBounds_toArray, List.set_cons_zero, List.set_cons_succ]
                refine wpAnyU_take (i := 4) (v := undef) rfl (by kernel_rfl) (by kernel_rfl) (by kernel_rfl) (by kernel_rfl) (fun _ _ _ h => h) (Or.inr ⟨by rfl, rfl⟩) hH ?_
                change wpAnyU _ _ _ _ _ _ _ _ (Act.put _ (some 113) _) _
                try simp only [Act.put, List.setIfInBounds_toArray, List.set_cons_zero, List.set_cons_succ]
                refine wpAnyU_take (i := 5) (v := undef) rfl (by kernel_rfl) (by kernel_rfl) (by kernel_rfl) (by kernel_rfl) (fun _ _ _ h => h) (Or.inr ⟨by rfl, rfl⟩) hH ?_
                change wpAnyU _ _ _ _ _ _ _ _ (Act.put _ (some 114) _) _
                try simp only [Act.put, List.setIfInBounds_toArray, List.set_cons_zero, List.set_cons_succ]
                refine wpAnyU_take (i := 6) (v := undef) rfl (by kernel_rfl) (by kernel_rfl) (by kernel_rfl) (by kernel_rfl) (fun _ _ _ h => h) (Or.inr ⟨by rfl, rfl⟩) hH ?_
                change wpAnyU _ _ _ _ _ _ _ _ (Act.put _ (some 115) _) _
                try simp only [Act.put, List.setIfInBounds_toArray, List.set_cons_zero, List.set_cons_succ]
                refine wpAnyU_take (i := 7) (v := undef) rfl (by kernel_rfl) (by kernel_rfl) (by kernel_rfl) (by kernel_rfl) (fun _ _ _ h => h) (Or.inr ⟨by rfl, rfl⟩) hH ?_
                change wpAnyU _ _ _ _ _ _ _ _ (Act.put _ (some 116) _) _
                try simp only [Act.put, List.setIfInBounds_toArray, List.set_cons_zero, List.set_cons_succ]
                refine wpAnyU_take (i := 8) (v := undef) rfl (by kernel_rfl) (by kernel_rfl) (by kernel_rfl) (by kernel_rfl) (fun _ _ _ h => h) (Or.inr ⟨by rfl, rfl⟩) hH ?_
                change wpAnyU _ _ _ _ _ _ _ _ (Act.put _ (some 117) _) _
                try simp only [Act.put, List.setIfInBounds_toArray, List.set_cons_zero, List.set_cons_succ]
                refine wpAnyU_take (i := 9) (v := undef) rfl (by kernel_rfl) (by kernel_rfl) (by kernel_rfl) (by kernel_rfl) (fun _ _ _ h => h) (Or.inr ⟨by rfl, rfl⟩) hH ?_
                change wpAnyU _ _ _ _ _ _ _ _ (Act.put _ (some 118) _) _
                try simp only [Act.put, List.setIfInBounds_toArray, List.set_cons_zero, List.set_cons_succ]
                refine wpAnyU_take (i := 10) (v := undef) rfl (by kernel_rfl) (by kernel_rfl) (by kernel_rfl) (by kernel_rfl) (fun _ _ _ h => h) (Or.inr ⟨by rfl, rfl⟩) hH ?_
                change wpAnyU _ _ _ _ _ _ _ _ (Act.put _ (some 119) _) _
                try simp only [Act.put, List.setIfInBounds_toArray, List.set_cons_zero, List.set_cons_succ]
                refine wpAnyU_take (i := 11) (v := ?_) rfl (by kernel_rfl) (by kernel_rfl) (by kernel_rfl) (by kernel_rfl) (fun _ _ _ h => h) (Or.inl ⟨by rfl, ?_⟩) hH ?_
                rotate_left
                · (intro w'' hSw; (try dsimp only at hSw); go_simp; try with_reducible rfl)
                change wpAnyU _ _ _ _ _ _ _ _ (Act.put _ (some 120) _) _
                try simp only [Act.put, List.setIfInBounds_toArray, List.set_cons_zero, List.set_cons_succ]
                refine wpAnyU_take (i := 12) (v := ?_) rfl (by kernel_rfl) (by kernel_rfl) (by kernel_rfl) (by kernel_rfl) (fun _ _ _ h => h) (Or.inl ⟨by rfl, ?_⟩) hH ?_
                rotate_left
                · (intro w'' hSw; (try dsimp only at hSw); go_simp; try with_reducible rfl)
                change wpAnyU _ _ _ _ _ _ _ _ (Act.put _ (some 121) _) _
                try simp only [Act.put, List.setIfInBounds_toArray, List.set_cons_zero, List.set_cons_succ]
                refine wpAnyU_take (i := 13) (v := ?_) rfl (by kernel_rfl) (by kernel_rfl) (by kernel_rfl) (by kernel_rfl) (fun _ _ _ h => h) (Or.inl ⟨by rfl, ?_⟩) hH ?_
                rotate_left
                · (intro w'' hSw; (try dsimp only at hSw); go_simp; try with_reducible rfl)
                change wpAnyU _ _ _ _ _ _ _ _ (Act.put _ (some 122) _) _
                try simp only [Act.put, List.setIfInBounds_toArray, List.set_cons_zero, List.set_cons_succ]
                refine wpAnyU_take (i := 14) (v := ?_) rfl (by kernel_rfl) (by kernel_rfl) (by kernel_rfl) (by kernel_rfl) (fun _ _ _ h => h) (Or.inl ⟨by rfl, ?_⟩) hH ?_
                rotate_left
                · (intro w'' hSw; (try dsimp only at hSw); go_simp; try with_reducible rfl)
                change wpAnyU _ _ _ _ _ _ _ _ (Act.put _ (some 123) _) _
                try simp only [Act.put, List.setIfInBounds_toArray, List.set_cons_zero, List.set_cons_succ]
                refine wpAnyU_take (i := 15) (v := ?_) rfl (by kernel_rfl) (by kernel_rfl) (by kernel_rfl) (by kernel_rfl) (fun _ _ _ h => h) (Or.inl ⟨by rfl, ?_⟩) hH ?_
                rotate_left
                · (intro w'' hSw; (try dsimp only at hSw); go_simp; try with_reducible rfl)
                change wpAnyU _ _ _ _ _ _ _ _ (Act.put _ (some 124) _) _
                try simp only [Act.put, List.setIfInBounds_toArray, List.set_cons_zero, List.set_cons_succ]
                refine wpAnyU_take (i := 16) (v := ?_) rfl (by kernel_rfl) (by kernel_rfl) (by kernel_rfl) (by kernel_rfl) (fun _ _ _ h => h) (Or.inl ⟨by rfl, ?_⟩) hH ?_
                rotate_left
                · (intro w'' hSw; (try dsimp only at hSw); go_simp; try with_reducible rfl)
                change wpAnyU _ _ _ _ _ _ _ _ (Act.put _ (some 125) _) _
                try simp only [Act.put, List.setIfInBounds_toArray, List.set_cons_zero, List.set_cons_succ]
                refine wpAnyU_take (i := 17) (v := ?_) rfl (by kernel_rfl) (by kernel_rfl) (by kernel_rfl) (by kernel_rfl) (fun _ _ _ h => h) (Or.inl ⟨by rfl, ?_⟩) hH ?_
                rotate_left
                · (intro w'' hSw; (try dsimp only at hSw); go_simp; try with_reducible rfl)
                change wpAnyU _ _ _ _ _ _ _ _ (Act.put _ (some 126) _) _
                try simp only [Act.put, List.setIfInBounds_toArray, List.set_cons_zero, List.set_cons_succ]
                refine wpAnyU_take (i := 18) (v := ?_) rfl (by kernel_rfl) (by kernel_rfl) (by kernel_rfl) (by kernel_rfl) (fun _ _ _ h => h) (Or.inl ⟨by rfl, ?_⟩) hH ?_
                rotate_left
                · (intro w'' hSw; (try dsimp only at hSw); go_simp; try with_reducible rfl)
                change wpAnyU _ _ _ _ _ _ _ _ (Act.put _ (some 127) _) _
                try simp only [Act.put, List.setIfInBounds_toArray, List.set_cons_zero, List.set_cons_succ]
                refine wpAnyU_take (i := 19) (v := ?_) rfl (by kernel_rfl) (by kernel_rfl) (by kernel_rfl) (by kernel_rfl) (fun _ _ _ h => h) (Or.inl ⟨by rfl, ?_⟩) hH ?_
                rotate_left
                · (intro w'' hSw; (try dsimp only at hSw); go_simp; try with_reducible rfl)
                change wpAnyU _ _ _ _ _ _ _ _ (Act.put _ (some 128) _) _
                try simp only [Act.put, List.setIfInBounds_toArray, List.set_cons_zero, List.set_cons_succ]
                refine wpAnyU_take (i := 20) (v := ?_) rfl (by kernel_rfl) (by kernel_rfl) (by kernel_rfl) (by kernel_rfl) (fun _ _ _ h => h) (Or.inl ⟨by rfl, ?_⟩) hH ?_
                rotate_left
                · (intro w'' hSw; (try dsimp only at hSw); go_simp; try with_reducible rfl)
                change wpAnyU _ _ _ _ _ _ _ _ (Act.put _ (some 129) _) _
                try simp only [Act.put, List.setIfInBounds_toArray, List.set_cons_zero, List.set_cons_succ]
                refine wpAnyU_take (i := 21) (v := ?_) rfl (by kernel_rfl) (by kernel_rfl) (by kernel_rfl) (by kernel_rfl) (fun _ _ _ h => h) (Or.inl ⟨by rfl, ?_⟩) hH ?_
                rotate_left
                · (intro w'' hSw; (try dsimp only at hSw); go_simp; try with_reducible rfl)
                change wpAnyU _ _ _ _ _ _ _ _ (Act.put _ (some 130) _) _
                try simp only [Act.put, List.setIfInBounds_toArray, List.set_cons_zero, List.set_cons_succ]
                refine wpAnyU_take (i := 22) (v := ?_) rfl (by kernel_rfl) (by kernel_rfl) (by kernel_rfl) (by kernel_rfl) (fun _ _ _ h => h) (Or.inl ⟨by rfl, ?_⟩) hH ?_
                rotate_left
                · (intro w'' hSw; have q := cell_kept hSw.out Q2.out (fun hh => hh); go_simp; try with_reducible rfl)
                change wpAnyU _ _ _ _ _ _ _ _ (Act.put _ (some 131) _) _
                try simp only [Act.put, List.setIfInBounds_toArray, List.set_cons_zero, List.set_cons_succ]
                refine wpAnyU_take (i := 23) (v := ?_) rfl (by kernel_rfl) (by kernel_rfl) (by kernel_rfl) (by kernel_rfl) (fun _ _ _ h => h) (Or.inl ⟨by rfl, ?_⟩) hH ?_
                rotate_left
                · (intro w'' hSw; (try dsimp only at hSw); go_simp; try with_reducible rfl)
                change wpAnyU _ _ _ _ _ _ _ _ (Act.put _ (some 132) _) _
                try simp only [Act.put, List.setIfInBounds_toArray, List.set_cons_zero, List.set_cons_succ]
                refine wpAnyU_take (i := 24) (v := ?_) rfl (by kernel_rfl) (by kernel_rfl) (by kernel_rfl) (by kernel_rfl) (fun _ _ _ h => h) (Or.inl ⟨by rfl, ?_⟩) hH ?_
                rotate_left
                · (intro w'' hSw; have q := cell_kept hSw.out K2.out (fun hh => hh); go_simp; try with_reducible rfl)
                change wpAnyU _ _ _ _ _ _ _ _ (Act.put _ (some 133) _) _
                try simp only [Act.put, List.setIfInBounds_toArray, List.set_cons_zero, List.set_cons_succ]
                refine wpAnyU_take (i := 27) (v := ?_) rfl (by kernel_rfl) (by kernel_rfl) (by kernel_rfl) (by kernel_rfl) (fun _ _ _ h => h) (Or.inl ⟨by rfl, ?_⟩) hH ?_
                rotate_left
                · (intro w'' hSw; (try dsimp only at hSw); go_simp; try with_reducible rfl)
                change wpAnyU _ _ _ _ _ _ _ _ (Act.put _ (some 136) _) _
                try simp only [Act.put, List.setIfInBounds_toArray, List.set_cons_zero, List.set_cons_succ]
                refine wpAnyU_take (i := 28) (v := ?_) rfl (by kernel_rfl) (by kernel_rfl) (by kernel_rfl) (by kernel_rfl) (fun _ _ _ h => h) (Or.inl ⟨by rfl, ?_⟩) hH ?_
                rotate_left
                · (intro w'' hSw; (try dsimp only at hSw); go_simp; try with_reducible rfl)
                change wpAnyU _ _ _ _ _ _ _ _ (Act.put _ (some 137) _) _
                try simp only [Act.put, List.setIfInBounds_toArray, List.set_cons_zero, List.set_cons_succ]
                refine wpAnyU_take (i := 29) (v := ?_) rfl (by kernel_rfl) (by kernel_rfl) (by kernel_rfl) (by kernel_rfl) (fun _ _ _ h => h) (Or.inl ⟨by rfl, ?_⟩) hH ?_
                rotate_left
                · (intro w'' hSw; (try dsimp only at hSw); go_simp; try with_reducible rfl)
                change wpAnyU _ _ _ _ _ _ _ _ (Act.put _ (some 138) _) _
                try simp only [Act.put, List.setIfInBounds_toArray, List.set_cons_zero, List.set_cons_succ]
                refine wpAnyU_take (i := 30) (v := ?_) rfl (by kernel_rfl) (by kernel_rfl) (by kernel_rfl) (by kernel_rfl) (fun _ _ _ h => h) (Or.inl ⟨by rfl, ?_⟩) hH ?_
                rotate_left
                · (intro w'' hSw; have q := cell_kept hSw.out GA.out (fun hh => hh); go_simp; try with_reducible rfl)
                change wpAnyU _ _ _ _ _ _ _ _ (Act.put _ (some 139) _) _
                try simp only [Act.put, List.setIfInBounds_toArray, List.set_cons_zero, List.set_cons_succ]
                refine wpAnyU_take (i := 31) (v := ?_) rfl (by kernel_rfl) (by kernel_rfl) (by kernel_rfl) (by kernel_rfl) (fun _ _ _ h => h) (Or.inl ⟨by rfl, ?_⟩) hH ?_
                rotate_left
                · (intro w'' hSw; (try dsimp only at hSw); go_simp; try with_reducible rfl)
                change wpAnyU _ _ _ _ _ _ _ _ (Act.put _ (some 140) _) _
                try simp only [Act.put, List.setIfInBounds_toArray, List.set_cons_zero, List.set_cons_succ]
                refine wpAnyU_ready (rs := [25]) (by kernel_rfl) (by simp) ?_
                refine AllReadyU.cons rfl (fun Kn hKn => ?_) AllReadyU.nil
                go_simp
                refine hKn.out _ _ ?_ (fun hH => ?_)
                · (exact Lib.hid (hH.out.alloc' _))
                clear hKn Kn
                try simp only [Act.put, List.setIfInBounds_toArray, List.set_cons_zero, List.set_cons_succ]
                refine wpAnyU_ready (rs := [26]) (by kernel_rfl) (by simp) ?_
                refine AllReadyU.cons rfl (fun Kn hKn => ?_) AllReadyU.nil
                go_simp
                refine hKn.out _ _ ?_ (fun hH => ?_)
                · (exact hH)
                clear hKn Kn
                try simp only [Act.put, List.setIfInBounds_toArray, List.set_cons_zero, List.set_cons_succ]
                refine wpAnyU_take (i := 32) (v := ?_) rfl (by kernel_rfl) (by kernel_rfl) (by kernel_rfl) (by kernel_rfl) (fun _ _ _ h => h) (Or.inl ⟨by rfl, ?_⟩) hH ?_
                rotate_left
                · (intro w'' hSw; (try dsimp only at hSw); go_simp; try with_reducible rfl)
                change wpAnyU _ _ _ _ _ _ _ _ (Act.put _ (some 141) _) _
                try simp only [Act.put, List.setIfInBounds_toArray, List.set_cons_zero, List.set_cons_succ]
                refine wpAnyU_take (i := 33) (v := ?_) rfl (by kernel_rfl) (by kernel_rfl) (by kernel_rfl) (by kernel_rfl) (fun _ _ _ h => h) (Or.inl ⟨by rfl, ?_⟩) hH ?_
                rotate_left
                · (intro w'' hSw; (try dsimp only at hSw); go_simp; try with_reducible rfl)
                change wpAnyU _ _ _ _ _ _ _ _ (Act.put _ (some 142) _) _
                try simp only [Act.put, List.setIfInBounds_toArray, List.set_cons_zero, List.set_cons_succ]
                refine wpAnyU_take (i := 34) (v := ?_) rfl (by kernel_rfl) (by kernel_rfl) (by kernel_rfl) (by kernel_rfl) (fun _ _ _ h => h) (Or.inl ⟨by rfl, ?_⟩) hH ?_
                rotate_left
                · (intro w'' hSw; (try dsimp only at hSw); go_simp; try with_reducible rfl)
                change wpAnyU _ _ _ _ _ _ _ _ (Act.put _ (some 143) _) _
                try simp only [Act.put, List.setIfInBounds_toArray, List.set_cons_zero, List.set_cons_succ]
                refine wpAnyU_take (i := 35) (v := ?_) rfl (by kernel_rfl) (by kernel_rfl) (by kernel_rfl) (by kernel_rfl) (fun _ _ _ h => h) (Or.inl ⟨by rfl, ?_⟩) hH ?_
                rotate_left
                · (intro w'' hSw; (try dsimp only at hSw); go_simp; try with_reducible rfl)
                change wpAnyU _ _ _ _ _ _ _ _ (Act.put _ (some 144) _) _
                try simp only [Act.put, List.setIfInBounds_toArray, List.set_cons_zero, List.set_cons_succ]
                refine wpAnyU_done (by kernel_rfl) ?_ _
                obtain ⟨wz, hwz⟩ : ∃ wz : World, (wq.alloc (.cells #[.int .u8 z] 5)).drew = wz := ⟨_, rfl⟩
                have P6 := Lib.hid (show PQ w1.heap.size w1 p q σ.abs ρ ((w6.heap.size, .cells mc 43 (0, 0)) :: D) wz ∧ σ.Ok ∧ Sa σ σ1 from by rw [← hwz]; exact ⟨P4.out.1.quiet (hH.out), P4.out.2⟩)
                rw [hwz]
                clear hwz P4 Q2 GA K2 hcv hsz hsum happ hex hne hH
                go_wp2_with fail
                go_loopw [20] (fun j wr => ∃ m : Nat, m ≤ 4 ∧ j = .int .i64 (m : Int) ∧ ∃ τ : RS, Hid (PQ w1.heap.size w1 p q τ.abs ρ ((w6.heap.size, .cells mc 43 (0, 0)) :: D) wr ∧ τ.Ok ∧ Sa τ σ1)) (fun j _ => 5 - (RowKit.intOf j).toNat)
                case atStart => exact ⟨0, by omega, rfl, σ, P6⟩
                case round =>
                  obtain ⟨m, hm, rfl, τ, QQ⟩ := hrel
                  obtain ⟨wv, rfl⟩ : ∃ wv : World, wv = wr := ⟨_, rfl⟩
                  clear P6
                  by_cases hlt4 : m < 4
                  · have hb4 : decide (m < 4) = true := by simpa using hlt4
                    have HLV := Lib.hid (sLeave QQ.out.1 QQ.out.2.1 (m : Int))
                    have HLO := Lib.hid (QQ.out.2.1.leave (m : Int))
                    have HLS := Lib.hid ((Sa.leave τ (m : Int)).trans QQ.out.2.2)
                    obtain ⟨R1, hR⟩ : ∃ R1, τ.leaveR (m : Int) = R1 := ⟨_, rfl⟩
                    rw [hR] at HLV HLO HLS
                    clear hR
                    obtain ⟨⟨lv, τ1⟩, rfl⟩ : ∃ y : Int × RS, y = R1 := ⟨_, rfl⟩
                    dsimp only at HLV HLO HLS
                    go_wp2_with fail
                    ((with_reducible refine HLV.out.mono ?_); rintro ee w7 ⟨rfl, hp7⟩)
                    have HSF := Lib.hid (sSafe hp7 HLO.out (m : Int))
                    have HSO := Lib.hid (HLO.out.safe (m : Int))
                    have HSS := Lib.hid ((Sa.safe τ1 (m : Int)).trans HLS.out)
                    obtain ⟨R1, hR⟩ : ∃ R1, τ1.safeR (m : Int) = R1 := ⟨_, rfl⟩
                    rw [hR] at HSF HSO HSS
                    clear hR hp7 HLV HLO HLS
                    obtain ⟨⟨sv, τ2⟩, rfl⟩ : ∃ y : Int × RS, y = R1 := ⟨_, rfl⟩
                    dsimp only at HSF HSO HSS
                    go_wp2_with fail
                    ((with_reducible refine HSF.out.mono ?_); rintro ee w8 ⟨rfl, hp8⟩)
                    have HE := Lib.hid (sEnter hp8 HSO.out (m : Int) (k : Int))
                    have HEO := Lib.hid (HSO.out.enter (m : Int) (k : Int))
                    have HES := Lib.hid ((Sa.enter τ2 (m : Int) (k : Int)).trans HSS.out)
                    have HEZ := Lib.hid (fun (h0 : (τ2.enterR (m : Int) (k : Int)).2.1 = 0) => (show (τ2.enterR (m : Int) (k : Int)).1 = mb from by rw [(enter_none_zero h0).2.1, HSS.out.2, HMS.out]))
                    obtain ⟨R1, hR⟩ : ∃ R1, τ2.enterR (m : Int) (k : Int) = R1 := ⟨_, rfl⟩
                    rw [hR] at HE HEO HES HEZ
                    clear hR hp8 HSF HSO HSS
                    obtain ⟨⟨s1, ev, τ3⟩, rfl⟩ : ∃ y : Bytes × Int × RS, y = R1 := ⟨_, rfl⟩
                    dsimp only at HE HEO HES HEZ
                    go_wp2_with fail
                    ((with_reducible refine HE.out.mono ?_); rintro ee w9 ⟨rfl, hp9⟩)
                    have q9 : w9.cell? ⟨w6.heap.size, 2, none⟩ = some (.string (sb mb)) := (blk_cell (hp9.at_ (.head _)) 2).trans HM2.out
                    have HLV := Lib.hid (sLeave hp9 HEO.out (m : Int))
                    have HLO := Lib.hid (HEO.out.leave (m : Int))
                    have HLS := Lib.hid ((Sa.leave τ3 (m : Int)).trans HES.out)
                    obtain ⟨R1, hR⟩ : ∃ R1, τ3.leaveR (m : Int) = R1 := ⟨_, rfl⟩
                    rw [hR] at HLV HLO HLS
                    clear hR hp9 HE HEO HES
                    obtain ⟨⟨lv2, τ4⟩, rfl⟩ : ∃ y : Int × RS, y = R1 := ⟨_, rfl⟩
                    dsimp only at HLV HLO HLS
                    by_cases hev : ev = 0
                    · subst hev
                      obtain rfl := HEZ.out rfl
                      go_wp2_with fail
                      ((with_reducible refine HLV.out.mono ?_); rintro ee w10 ⟨rfl, hp10⟩)
                      have P7 := Lib.hid (And.intro hp10 (And.intro HLO.out HLS.out))
                      clear hp10 HLV HLO HLS q9
                      go_wp2_with fail
                      exact ⟨⟨m + 1, by omega, by go_num, τ4, P7⟩, by simp [RowKit.intOf]; omega⟩
                    · have hev2 : (ev == 0) = false := by simpa using hev
                      go_wp2_with fail
                      ((with_reducible refine HLV.out.mono ?_); rintro ee w10 ⟨rfl, hp10⟩)
                      have P7 := Lib.hid (And.intro hp10 (And.intro HLO.out HLS.out))
                      clear hp10 HLV HLO HLS q9
                      go_wp2_with fail
                      exact ⟨⟨m + 1, by omega, by go_num, τ4, P7⟩, by simp [RowKit.intOf]; omega⟩
                  · have hb4 : decide (m < 4) = false := by simpa using hlt4
                    have P7 := Lib.hid (show PQ w1.heap.size w1 p q τ.abs ρ D wv ∧ τ.Ok ∧ Sa τ σ1 from ⟨QQ.out.1.less (fun _ h => .tail _ h), QQ.out.2⟩)
                    clear QQ
                    go_wp2_with fail
                    exact ⟨⟨k + 1, by omega, by go_num, τ, P7⟩, by simp [RowKit.intOf]; omega⟩
              · have hv2 : (v == 0) = false := by simpa using hv
                have HMS := Lib.hid (show σ1.modB (k : Int) = mb by rw [← P4.out.2.2.2, HMB.out])
                go_wp2_with (refine wpList_store_row rfl 43 (.tmp 18) (.tmp 93) rfl w6.heap.size 43 z9 mc rfl rfl (by exact heap_alloc_new _ _) (by rw [RS9.out]; kernel_rfl) (by rw [RS9.out]; rfl) RA.out ?_)
                go_quiet (fail)
                obtain ⟨wz, hwz⟩ : ∃ wz : World, World.drewN ((w6.alloc (.cells #[.int .i64 0, .int .i64 0, .string ⟨#[]⟩, .slice none 0 0, .slice none 0 0, .slice none 0 0, .int .i64 0, .int .i64 0, .slice none 0 0] 43)).setRow w6.heap.size mc) nq = wz := ⟨_, rfl⟩
                have P6 := Lib.hid (show PQ w1.heap.size w1 p q σ.abs ρ ((w6.heap.size, .cells mc 43 (0, 0)) :: D) wz ∧ σ.Ok ∧ Sa σ σ1 from by rw [← hwz]; exact ⟨P4.out.1.quiet (keep_drewN _ _ nq), P4.out.2⟩)
                rw [hwz]
                clear hwz P4 q2 ga k1 k2
                go_wp2_with fail
                go_loopw [20] (fun j wr => ∃ m : Nat, m ≤ 4 ∧ j = .int .i64 (m : Int) ∧ ∃ τ : RS, Hid (PQ w1.heap.size w1 p q τ.abs ρ ((w6.heap.size, .cells mc 43 (0, 0)) :: D) wr ∧ τ.Ok ∧ Sa τ σ1)) (fun j _ => 5 - (RowKit.intOf j).toNat)
                case atStart => exact ⟨0, by omega, rfl, σ, P6⟩
                case round =>
                  obtain ⟨m, hm, rfl, τ, QQ⟩ := hrel
                  obtain ⟨wv, rfl⟩ : ∃ wv : World, wv = wr := ⟨_, rfl⟩
                  clear P6
                  by_cases hlt4 : m < 4
                  · have hb4 : decide (m < 4) = true := by simpa using hlt4
                    have HLV := Lib.hid (sLeave QQ.out.1 QQ.out.2.1 (m : Int))
                    have HLO := Lib.hid (QQ.out.2.1.leave (m : Int))
                    have HLS := Lib.hid ((Sa.leave τ (m : Int)).trans QQ.out.2.2)
                    obtain ⟨R1, hR⟩ : ∃ R1, τ.leaveR (m : Int) = R1 := ⟨_, rfl⟩
                    rw [hR] at HLV HLO HLS
                    clear hR
                    obtain ⟨⟨lv, τ1⟩, rfl⟩ : ∃ y : Int × RS, y = R1 := ⟨_, rfl⟩
                    dsimp only at HLV HLO HLS
                    go_wp2_with fail
                    ((with_reducible refine HLV.out.mono ?_); rintro ee w7 ⟨rfl, hp7⟩)
                    have HSF := Lib.hid (sSafe hp7 HLO.out (m : Int))
                    have HSO := Lib.hid (HLO.out.safe (m : Int))
                    have HSS := Lib.hid ((Sa.safe τ1 (m : Int)).trans HLS.out)
                    obtain ⟨R1, hR⟩ : ∃ R1, τ1.safeR (m : Int) = R1 := ⟨_, rfl⟩
                    rw [hR] at HSF HSO HSS
                    clear hR hp7 HLV HLO HLS
                    obtain ⟨⟨sv, τ2⟩, rfl⟩ : ∃ y : Int × RS, y = R1 := ⟨_, rfl⟩
                    dsimp only at HSF HSO HSS
                    go_wp2_with fail
                    ((with_reducible refine HSF.out.mono ?_); rintro ee w8 ⟨rfl, hp8⟩)
                    have HE := Lib.hid (sEnter hp8 HSO.out (m : Int) (k : Int))
                    have HEO := Lib.hid (HSO.out.enter (m : Int) (k : Int))
                    have HES := Lib.hid ((Sa.enter τ2 (m : Int) (k : Int)).trans HSS.out)
                    have HEZ := Lib.hid (fun (h0 : (τ2.enterR (m : Int) (k : Int)).2.1 = 0) => (show (τ2.enterR (m : Int) (k : Int)).1 = mb from by rw [(enter_none_zero h0).2.1, HSS.out.2, HMS.out]))
                    obtain ⟨R1, hR⟩ : ∃ R1, τ2.enterR (m : Int) (k : Int) = R1 := ⟨_, rfl⟩
                    rw [hR] at HE HEO HES HEZ
                    clear hR hp8 HSF HSO HSS
                    obtain ⟨⟨s1, ev, τ3⟩, rfl⟩ : ∃ y : Bytes × Int × RS, y = R1 := ⟨_, rfl⟩
                    dsimp only at HE HEO HES HEZ
                    go_wp2_with fail
                    ((with_reducible refine HE.out.mono ?_); rintro ee w9 ⟨rfl, hp9⟩)
                    have q9 : w9.cell? ⟨w6.heap.size, 2, none⟩ = some (.string (sb mb)) := (blk_cell (hp9.at_ (.head _)) 2).trans HM2.out
                    have HLV := Lib.hid (sLeave hp9 HEO.out (m : Int))
                    have HLO := Lib.hid (HEO.out.leave (m : Int))
                    have HLS := Lib.hid ((Sa.leave τ3 (m : Int)).trans HES.out)
                    obtain ⟨R1, hR⟩ : ∃ R1, τ3.leaveR (m : Int) = R1 := ⟨_, rfl⟩
                    rw [hR] at HLV HLO HLS
                    clear hR hp9 HE HEO HES
                    obtain ⟨⟨lv2, τ4⟩, rfl⟩ : ∃ y : Int × RS, y = R1 := ⟨_, rfl⟩
                    dsimp only at HLV HLO HLS
                    by_cases hev : ev = 0
                    · subst hev
                      obtain rfl := HEZ.out rfl
                      go_wp2_with fail
                      ((with_reducible refine HLV.out.mono ?_); rintro ee w10 ⟨rfl, hp10⟩)
                      have P7 := Lib.hid (And.intro hp10 (And.intro HLO.out HLS.out))
                      clear hp10 HLV HLO HLS q9
                      go_wp2_with fail
                      exact ⟨⟨m + 1, by omega, by go_num, τ4, P7⟩, by simp [RowKit.intOf]; omega⟩
                    · have hev2 : (ev == 0) = false := by simpa using hev
                      go_wp2_with fail
                      ((with_reducible refine HLV.out.mono ?_); rintro ee w10 ⟨rfl, hp10⟩)
                      have P7 := Lib.hid (And.intro hp10 (And.intro HLO.out HLS.out))
                      clear hp10 HLV HLO HLS q9
                      go_wp2_with fail
                      exact ⟨⟨m + 1, by omega, by go_num, τ4, P7⟩, by simp [RowKit.intOf]; omega⟩
                  · have hb4 : decide (m < 4) = false := by simpa using hlt4
                    have P7 := Lib.hid (show PQ w1.heap.size w1 p q τ.abs ρ D wv ∧ τ.Ok ∧ Sa τ σ1 from ⟨QQ.out.1.less (fun _ h => .tail _ h), QQ.out.2⟩)
                    clear QQ
                    go_wp2_with fail
                    exact ⟨⟨k + 1, by omega, by go_num, τ, P7⟩, by simp [RowKit.intOf]; omega⟩
            · have hkI2 : ((k : Int) == (I : Int)) = false := by rw [beq_eq_false_iff_ne]; intro e; exact hkI (by omega)
              have hkI3 : ((k : Int) != (I : Int)) = true := by rw [bne_iff_ne]; intro e; exact hkI (by omega)
              have hmb0 : b0 = mb := by rw [← hb0, ← (HPB.out k).1 hkI, ← P4.out.2.2.2, HMB.out]
              subst hmb0
              have HMS := Lib.hid (show σ1.modB (k : Int) = b0 by rw [← P4.out.2.2.2, HMB.out])
              go_wp2_with (refine wpList_store_row rfl 43 (.tmp 18) (.tmp 93) rfl w6.heap.size 43 z9 mc rfl rfl (by exact heap_alloc_new _ _) (by rw [RS9.out]; kernel_rfl) (by rw [RS9.out]; rfl) RA.out ?_)
              go_quiet (fail)
              obtain ⟨wz, hwz⟩ : ∃ wz : World, World.drewN ((w6.alloc (.cells #[.int .i64 0, .int .i64 0, .string ⟨#[]⟩, .slice none 0 0, .slice none 0 0, .slice none 0 0, .int .i64 0, .int .i64 0, .slice none 0 0] 43)).setRow w6.heap.size mc) nq = wz := ⟨_, rfl⟩
              have P6 := Lib.hid (show PQ w1.heap.size w1 p q σ.abs ρ ((w6.heap.size, .cells mc 43 (0, 0)) :: D) wz ∧ σ.Ok ∧ Sa σ σ1 from by rw [← hwz]; exact ⟨P4.out.1.quiet (keep_drewN _ _ nq), P4.out.2⟩)
              rw [hwz]
              clear hwz P4 q2 ga k1 k2
              go_wp2_with fail
              go_loopw [20] (fun j wr => ∃ m : Nat, m ≤ 4 ∧ j = .int .i64 (m : Int) ∧ ∃ τ : RS, Hid (PQ w1.heap.size w1 p q τ.abs ρ ((w6.heap.size, .cells mc 43 (0, 0)) :: D) wr ∧ τ.Ok ∧ Sa τ σ1)) (fun j _ => 5 - (RowKit.intOf j).toNat)
              case atStart => exact ⟨0, by omega, rfl, σ, P6⟩
              case round =>
                obtain ⟨m, hm, rfl, τ, QQ⟩ := hrel
                obtain ⟨wv, rfl⟩ : ∃ wv : World, wv = wr := ⟨_, rfl⟩
                clear P6
                by_cases hlt4 : m < 4
                · have hb4 : decide (m < 4) = true := by simpa using hlt4
                  have HLV := Lib.hid (sLeave QQ.out.1 QQ.out.2.1 (m : Int))
                  have HLO := Lib.hid (QQ.out.2.1.leave (m : Int))
                  have HLS := Lib.hid ((Sa.leave τ (m : Int)).trans QQ.out.2.2)
                  obtain ⟨R1, hR⟩ : ∃ R1, τ.leaveR (m : Int) = R1 := ⟨_, rfl⟩
                  rw [hR] at HLV HLO HLS
                  clear hR
                  obtain ⟨⟨lv, τ1⟩, rfl⟩ : ∃ y : Int × RS, y = R1 := ⟨_, rfl⟩
                  dsimp only at HLV HLO HLS
                  go_wp2_with fail
                  ((with_reducible refine HLV.out.mono ?_); rintro ee w7 ⟨rfl, hp7⟩)
                  have HSF := Lib.hid (sSafe hp7 HLO.out (m : Int))
                  have HSO := Lib.hid (HLO.out.safe (m : Int))
                  have HSS := Lib.hid ((Sa.safe τ1 (m : Int)).trans HLS.out)
                  obtain ⟨R1, hR⟩ : ∃ R1, τ1.safeR (m : Int) = R1 := ⟨_, rfl⟩
                  rw [hR] at HSF HSO HSS
                  clear hR hp7 HLV HLO HLS
                  obtain ⟨⟨sv, τ2⟩, rfl⟩ : ∃ y : Int × RS, y = R1 := ⟨_, rfl⟩
                  dsimp only at HSF HSO HSS
                  go_wp2_with fail
                  ((with_reducible refine HSF.out.mono ?_); rintro ee w8 ⟨rfl, hp8⟩)
                  have HE := Lib.hid (sEnter hp8 HSO.out (m : Int) (k : Int))
                  have HEO := Lib.hid (HSO.out.enter (m : Int) (k : Int))
                  have HES := Lib.hid ((Sa.enter τ2 (m : Int) (k : Int)).trans HSS.out)
                  have HEZ := Lib.hid (fun (h0 : (τ2.enterR (m : Int) (k : Int)).2.1 = 0) => (show (τ2.enterR (m : Int) (k : Int)).1 = b0 from by rw [(enter_none_zero h0).2.1, HSS.out.2, HMS.out]))
                  obtain ⟨R1, hR⟩ : ∃ R1, τ2.enterR (m : Int) (k : Int) = R1 := ⟨_, rfl⟩
                  rw [hR] at HE HEO HES HEZ
                  clear hR hp8 HSF HSO HSS
                  obtain ⟨⟨s1, ev, τ3⟩, rfl⟩ : ∃ y : Bytes × Int × RS, y = R1 := ⟨_, rfl⟩
                  dsimp only at HE HEO HES HEZ
                  go_wp2_with fail
                  ((with_reducible refine HE.out.mono ?_); rintro ee w9 ⟨rfl, hp9⟩)
                  have q9 : w9.cell? ⟨w6.heap.size, 2, none⟩ = some (.string (sb b0)) := (blk_cell (hp9.at_ (.head _)) 2).trans HM2.out
                  have HLV := Lib.hid (sLeave hp9 HEO.out (m : Int))
                  have HLO := Lib.hid (HEO.out.leave (m : Int))
                  have HLS := Lib.hid ((Sa.leave τ3 (m : Int)).trans HES.out)
                  obtain ⟨R1, hR⟩ : ∃ R1, τ3.leaveR (m : Int) = R1 := ⟨_, rfl⟩
                  rw [hR] at HLV HLO HLS
                  clear hR hp9 HE HEO HES
                  obtain ⟨⟨lv2, τ4⟩, rfl⟩ : ∃ y : Int × RS, y = R1 := ⟨_, rfl⟩
                  dsimp only at HLV HLO HLS
                  by_cases hev : ev = 0
                  · subst hev
                    obtain rfl := HEZ.out rfl
                    go_wp2_with fail
                    ((with_reducible refine HLV.out.mono ?_); rintro ee w10 ⟨rfl, hp10⟩)
                    have P7 := Lib.hid (And.intro hp10 (And.intro HLO.out HLS.out))
                    clear hp10 HLV HLO HLS q9
                    go_wp2_with fail
                    exact ⟨⟨m + 1, by omega, by go_num, τ4, P7⟩, by simp [RowKit.intOf]; omega⟩
                  · have hev2 : (ev == 0) = false := by simpa using hev
                    go_wp2_with fail
                    ((with_reducible refine HLV.out.mono ?_); rintro ee w10 ⟨rfl, hp10⟩)
                    have P7 := Lib.hid (And.intro hp10 (And.intro HLO.out HLS.out))
                    clear hp10 HLV HLO HLS q9
                    go_wp2_with fail
                    exact ⟨⟨m + 1, by omega, by go_num, τ4, P7⟩, by simp [RowKit.intOf]; omega⟩
                · have hb4 : decide (m < 4) = false := by simpa using hlt4
                  have P7 := Lib.hid (show PQ w1.heap.size w1 p q τ.abs ρ D wv ∧ τ.Ok ∧ Sa τ σ1 from ⟨QQ.out.1.less (fun _ h => .tail _ h), QQ.out.2⟩)
                  clear QQ
                  go_wp2_with fail
                  exact ⟨⟨k + 1, by omega, by go_num, τ, P7⟩, by simp [RowKit.intOf]; omega⟩
          · have hb3 : decide (k < N) = false := by simpa using hlt3
            go_wp2_with fail
            go_ret
            exact ⟨rfl, Keep.trans H01.out (Since.mono PP.out.1.since H01.out.size)⟩
theorem apart_walk (x : Int) (hx : 0 ≤ x ∧ x ≤ 255) (A : Option Addr) (n c : Nat) (l : List Act') (y z : Int) (hy : 0 ≤ y ∧ y ≤ 255) (hz : 0 ≤ z ∧ z ≤ 255) (w : World) (hA : ActsAt w A n l) (hT : TB w) :
    Calls Tryd.prog 5 #[.int .u8 x, .slice A n c, .agg #[.int .u8 y, .int .u8 z]] w fun e w' => e = .returned (.bool true) ∧ Below w.heap.size w w' := by
  obtain ⟨k, rfl⟩ : ∃ k : Nat, x = (k : Int) := ⟨x.toNat, by omega⟩
  obtain ⟨y', rfl⟩ : ∃ k : Nat, y = (k : Int) := ⟨y.toNat, by omega⟩
  obtain ⟨z', rfl⟩ : ∃ k : Nat, z = (k : Int) := ⟨z.toNat, by omega⟩
  refine (apart_any w hT k (by omega) hA y' z' (by omega) (by omega)).mono ?_
  rintro e w' ⟨h1, h2⟩
  exact ⟨h1, below_since h2 rfl⟩
set_option maxRecDepth 100000 in
theorem apart_lifted (os : Os) (started : os.Started) (H : Type) (enc : TypeId × Value → H) :
    ReturnsInHanded {} Tryd.checked os 5 .any (fun w args => (Rows.installApartSpec.pre enc Tryd.prog Tryd.f5 Rows.installApartRow.domain false w args ∧ laidMet Tryd.prog Rows.installApartRow.laid w) ∧ sizedMet enc Tryd.prog Tryd.f5 (OpenSpec.ofChange Rows.installApartSpec) false w args) (Rows.installApartSpec.post enc Tryd.prog Tryd.f5 false true false false) := by
  refine law_lift_laid (C := Tryd.checked) (X := fun w _ => laidMet Tryd.prog tabs w) (fun _ _ _ hh h => h.of_heap hh) Tryd.own started (by kernel_rfl) Tryd.func5
    (ChangeSpec.witness_at (enc := enc) (C := Tryd.checked) (os := os) (X := fun w _ => laidMet Tryd.prog tabs w) false (laidWorld os) #[.int .u8 0, .slice none 0 0, .agg #[.int .u8 0, .int .u8 0]] 8 rfl (by kernel_rfl) (by kernel_rfl) (by kernel_rfl) (by kernel_rfl) (by kernel_rfl) (laidWorld_met os _))
    Tryd.laidOut (by kernel_rfl) rfl rfl Tryd.underlying4 ?_ ?_
  · intro ds hl
    match ds, hl with
    | [d1, d2, d3], _ => exact ⟨rfl, rfl, rfl⟩
  · intro W base args ds p hval0 hA0 hlt hsz0 hL
    have hval : ∀ (j : Nat) t v, Tryd.f5.params[j]? = some t → args[j]? = some v → Value.okWide Tryd.prog W .any base t v := hval0
    have hA : DataW.TrodAll enc Tryd.prog W 0 (fun _ => true) true Tryd.f5.params.toList args.toList ds p := hA0
    have hsz : (DataW.weightsEach Tryd.prog Tryd.f5.params.toList ds).all (· ≤ reachBytes) = true := hsz0
    rw [Tryd.params5] at hA hval hsz
    clear hA0 hval0 hsz0
    obtain ⟨v0, v1, v2, d0, d1, d2, p0, p1, p2, rfl, rfl, rfl, h0, h1, h2⟩ := trodAll_three hA
    have hlt0 : ∀ x ∈ p0, x.block < W.heap.size := fun x hx => hlt x (by simp [hx])
    have hlt1 : ∀ x ∈ p1, x.block < W.heap.size := fun x hx => hlt x (by simp [hx])
    have hlt2 : ∀ x ∈ p2, x.block < W.heap.size := fun x hx => hlt x (by simp [hx])
    obtain ⟨x, rfl, rfl, rfl, wx⟩ := open_int Tryd.underlying5 (hval 0 5 v0 rfl rfl) h0
    obtain ⟨Al, nl, cl, l, rfl, il⟩ := open_acts Tryd.underlying22 Tryd.underlying69 (by kernel_rfl) (by kernel_rfl) Tryd.underlying3 Tryd.underlying3 Tryd.underlying3 (hval 1 22 v1 rfl rfl) h1 hlt1
    obtain ⟨y, z, rfl, wy, wz⟩ := open_int_array2 Tryd.underlying50 Tryd.underlying5 (by kernel_rfl) (by kernel_rfl) (hval 2 50 v2 rfl rfl) h2
    exact apart_walk x (bd_u8 wx) Al nl cl l y z (bd_u8 wy) (bd_u8 wz) W il (tb_of_laid hL)

/-- The row. -/
theorem apart_row : Rows.InstallApartSaid :=
  OpenClaim.holds_of_wide 5 Tryd.f5 rfl rfl rfl rfl rfl rfl rfl ⟨rfl, rfl, rfl, rfl, rfl⟩ rfl rfl rfl rfl rfl (by kernel_rfl) Tryd.func5 (by kernel_rfl)
    (of_decide_eq_true (by kernel_rfl)) (by unfold Func.isWrapper; first | (rw [if_pos (by decide +kernel)]; kernel_rfl) | (rw [if_neg (by decide +kernel)]; exact ⟨rfl, rfl⟩))
    (fun os started H enc _ => apart_lifted os started H enc)
/-- The statement: the tied card. -/
theorem apart_holds : Rows.InstallApartCardSaid :=
  Claim7.holds_tied_plain_at .later [] [.data, .data, .data] true (true, "5af076ab2390d91f9d095ba662174c590b4b6eb6aef3ce95ba3380a4cb301d37") false
    apart_row (fun _ h => by cases h) (by kernel_rfl) (fun _ h => by cases h) installApart_row_tie rfl ⟨rfl, rfl⟩ (by kernel_rfl) rfl
    (fun f fn hf hfn => by
      obtain rfl : f = 5 := Option.some.inj ((show Tryd.prog.funcNamed "facsimile/facsimilelaw28.InstallApart" = some 5 by kernel_rfl).symm.trans hf) |>.symm
      obtain rfl : fn = Tryd.f5 := (Option.some.inj (Tryd.func5.symm.trans hfn)).symm
      exact ⟨by kernel_rfl, fun j t ht => by
        have h := List.all_eq_true.1 (show (Tryd.f5.params.toList.all fun t => !Tryd.prog.wantsStandIn t) = true by kernel_rfl) t (List.mem_of_getElem? (by simpa using ht))
        exact (show Tryd.prog.wantsStandIn t = false by simpa using h)⟩)
    (by kernel_rfl)
#print axioms apart_holds
end Go.Proofs.YtnhajhejkecihaaDoor
