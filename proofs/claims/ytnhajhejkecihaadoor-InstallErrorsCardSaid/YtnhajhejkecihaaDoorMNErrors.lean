/- InstallErrors: refused calls change nothing, and nil and zero stores refuse: for every number of processors, every list of calls and every number the law returns true. -/
import Derived.Test.YtnhajhejkecihaaDoorMG
import Derived.BigQuiet
import Derived.Lib.ConvBytes
import Derived.Laws.IdiomStrings
namespace Go.Proofs.YtnhajhejkecihaaDoor
open Go.ChangeShapes Go.WideShapes Go.ChangeAt Go.RowKit
set_option linter.unusedVariables false
set_option linter.unusedSimpArgs false

theorem addR_wrong {ρ : RS} {b : Bytes} (h : b.length = 0 ∨ 4096 < b.length) : ρ.addR b = (0, 33, ρ) := by
  unfold RS.addR
  rw [if_pos h]
theorem cpu_off {ρ : RS} {c : Int} (h : c < 0 ∨ (ρ.inn.length : Int) ≤ c) : ρ.cpu c = false := by
  unfold RS.cpu
  rcases h with h | h
  · simp; omega
  · simp; omega
theorem cpu_zero {ρ : RS} (ok : ρ.Ok) : ρ.cpu 0 = true := by
  unfold RS.cpu
  have := ok.cpus
  simp; omega
theorem there_off {ρ : RS} {c : Int} (h : c < 0 ∨ (ρ.L.length : Int) ≤ c) : ρ.there c = false := by
  unfold RS.there
  rcases h with h | h
  · rw [decide_eq_false (by omega)]; simp
  · rw [show decide (c < (ρ.L.length : Int)) = false from decide_eq_false (by omega)]; simp
theorem enterR_arg {ρ : RS} {c i : Int} (h : ρ.cpu c = false) : ρ.enterR c i = ([], 1, ρ) := by unfold RS.enterR; rw [if_pos h]
theorem enterR_none {ρ : RS} {c i : Int} (h : ρ.cpu c = true) (h2 : ρ.there i = false) : ρ.enterR c i = ([], 14, ρ) := by unfold RS.enterR; rw [if_neg (by rw [h]; decide), if_pos h2]
theorem leaveR_arg {ρ : RS} {c : Int} (h : ρ.cpu c = false) : ρ.leaveR c = (1, ρ) := by unfold RS.leaveR; rw [if_pos h]
theorem safeR_arg {ρ : RS} {c : Int} (h : ρ.cpu c = false) : ρ.safeR c = (1, ρ) := by unfold RS.safeR; rw [if_pos h]
theorem dropR_none {ρ : RS} {i : Int} (h : ρ.there i = false) : ρ.dropR i = (14, ρ) := by unfold RS.dropR; rw [if_pos h]
theorem patchR_none {ρ : RS} {i t : Int} {b : Bytes} (h : ρ.there i = false) : ρ.patchR i t b = (14, ρ) := by unfold RS.patchR; rw [if_pos h]
theorem conv_big (w : World) : (convert 53 9 (.slice (some ⟨w.heap.size, 0, none⟩) 4097 4097)).run Tryd.prog (w.alloc (.cells (madeCells #[.int .u8 0] 4097) 5)) = .ok (.string (sb (List.replicate 4097 0))) (w.alloc (.cells (madeCells #[.int .u8 0] 4097) 5)) := by
  have h := run_convert_bytes_back (w.alloc (.cells (madeCells #[.int .u8 0] 4097) 5)) 53 9 5 ⟨w.heap.size, 0, none⟩ 4097 (List.replicate 4097 0) Tryd.underlying53 Tryd.underlying5 Tryd.underlying9 (fun j hj => by
    rw [List.length_replicate] at hj
    rw [Addr.add_lit, blk_cell (heap_alloc_new w _), ← Array.getElem?_toList, toList_madeCells_one, List.getElem?_replicate, if_pos (by omega), List.getElem_replicate]
    rfl)
  rw [List.length_replicate] at h
  exact h
set_option maxHeartbeats 16000000 in
set_option maxRecDepth 100000 in
theorem errors_any (w : World) (hT : TB w) (cp : Nat) (hcp : cp < 256) {A : Option Addr} {n c : Nat} {l : List Act'} (hA : ActsAt w A n l) (m : Int) :
    Calls Tryd.prog 7 #[.int .u8 cp, .slice A n c, .int .i64 m] w fun e w' => e = .returned (.bool true) ∧ Since w.heap.size w w' := by
  have HS := Lib.hid (sanity_any w)
  have HP := Lib.hid (fun (W : World) (hk : Since w.heap.size w W) => play_any W (hT.since hk hT.pos) cp hcp (cap := c) (hA.since hk (Nat.le_refl _)) 15 (by omega))
  have HNW := Lib.hid (fun W : World => new_all W m)
  have HCB := Lib.hid conv_big
  have HMK := Lib.hid (show ∀ W : World, (Instr.makeSlice 53 (.int .i64 4097) (.int .i64 4097)).run Tryd.prog W = .ok (.slice (some ⟨W.heap.size, 0, none⟩) 4097 4097) (W.alloc (.cells (madeCells #[.int .u8 0] 4097) 5)) from
    fun W => run_make_row' 53 5 (.int .u8 0) 1 Tryd.bytes.ht Tryd.bytes.info rfl .i64 .i64 4097 (by omega) (by omega) W)
  obtain ⟨zl, hzl⟩ : ∃ zl, List.replicate 4097 (0 : UInt8) = zl := ⟨_, rfl⟩
  rw [hzl] at HCB
  have HZL := Lib.hid (show zl.length = 4097 by rw [← hzl, List.length_replicate])
  clear hA hT hzl
  go_enter Tryd.func7, Tryd.ntmps7
  go_wp2_with fail
  ((with_reducible refine HS.out.mono ?_); rintro e w1 ⟨rfl, hs⟩)
  have H01 := Lib.hid hs
  clear hs HS
  go_wp2_with fail
  ((refine (show Calls Tryd.prog _ #[_, _, .int .i64 15] w1 _ from HP.out w1 H01.out).mono ?_); rintro e w2 ⟨p, q, ρ, rfl, hp, hl⟩)
  have OK := Lib.hid hp.ok
  have HL := Lib.hid (show ρ.L.length < 1000000 by omega)
  obtain ⟨z, hz⟩ : ∃ z, sb (textOf ρ.abs.all ρ.abs.inn) = z := ⟨_, rfl⟩
  have HT1 := Lib.hid (pText hp)
  rw [hz] at HT1
  have HZ := Lib.hid hz
  clear hz hp HP hl
  go_wp2_with fail
  ((with_reducible refine HT1.out.mono ?_); rintro e w3 ⟨rfl, hp3⟩)
  have h3 := sAdd hp3 OK.out [] MX.zero (by simp) HL.out
  rw [addR_wrong (.inl rfl)] at h3
  have HA1 := Lib.hid h3
  clear hp3 HT1 h3
  go_wp2_with fail
  ((refine (show Calls Tryd.prog _ #[.pointer (some ⟨p, 0, none⟩), modV [] MX.zero] _ _ from HA1.out).mono ?_); rintro e w4 ⟨rfl, hp4⟩)
  have h3 := sAdd (hp4.quiet ((Keep.refl (fun _ => False) w4).alloc' (.cells (madeCells #[.int .u8 0] 4097) 5))) OK.out zl MX.zero (by have := HZL.out; omega) HL.out
  rw [addR_wrong (.inr (by have := HZL.out; omega))] at h3
  have HA2 := Lib.hid h3
  clear hp4 HA1 h3
  have hmk := HMK.out
  have hcb := HCB.out w4
  go_wp2_with fail
  ((refine (show Calls Tryd.prog _ #[.pointer (some ⟨p, 0, none⟩), modV zl MX.zero] _ _ from HA2.out).mono ?_); rintro e w5 ⟨rfl, hp5⟩)
  clear hmk hcb HMK HCB HA2
  obtain ⟨K, hK⟩ : ∃ K, ρ.inn.length = K := ⟨_, rfl⟩
  obtain ⟨N, hN⟩ : ∃ N, ρ.L.length = N := ⟨_, rfl⟩
  have hK4 : K ≤ 4 := by have := OK.out.cpus; omega
  have h3 := sEnter hp5 OK.out (K : Int) 0
  rw [enterR_arg (cpu_off (.inr (by rw [hK]; exact Int.le_refl _)))] at h3
  have HE1 := Lib.hid h3
  obtain ⟨u, hu0, hu1⟩ := hp5.hdr
  rw [hK] at hu1
  have HK := Lib.hid hK
  have HN := Lib.hid hN
  have NN := Lib.hid (show K ≤ 4 from hK4)
  clear hp5 h3 hu0 hK hN hK4
  go_wp2_with fail
  ((with_reducible refine HE1.out.mono ?_); rintro e w6 ⟨rfl, hp6⟩)
  clear hu1 HE1
  have h3 := sEnter hp6 OK.out 0 (N : Int)
  rw [enterR_none (cpu_zero OK.out) (there_off (.inr (by rw [HN.out]; exact Int.le_refl _)))] at h3
  have HE1 := Lib.hid h3
  obtain ⟨u', hu0, hu1⟩ := hp6.hdr
  rw [HN.out] at hu0
  clear hp6 h3 hu1
  go_wp2_with fail
  ((with_reducible refine HE1.out.mono ?_); rintro e w7 ⟨rfl, hp7⟩)
  clear hu0 HE1
  have h3 := sSafe hp7 OK.out (-1)
  rw [safeR_arg (cpu_off (.inl (by omega)))] at h3
  have HE1 := Lib.hid h3
  clear hp7 h3
  go_wp2_with fail
  ((with_reducible refine HE1.out.mono ?_); rintro e w8 ⟨rfl, hp8⟩)
  clear HE1
  have h3 := sLeave hp8 OK.out 4
  rw [leaveR_arg (cpu_off (.inr (by rw [HK.out]; have := NN.out; omega)))] at h3
  have HE1 := Lib.hid h3
  clear hp8 h3
  go_wp2_with fail
  ((with_reducible refine HE1.out.mono ?_); rintro e w9 ⟨rfl, hp9⟩)
  clear HE1
  have h3 := sDrop hp9 OK.out (-1)
  rw [dropR_none (there_off (.inl (by omega)))] at h3
  have HE1 := Lib.hid h3
  clear hp9 h3
  go_wp2_with fail
  ((with_reducible refine HE1.out.mono ?_); rintro e w10 ⟨rfl, hp10⟩)
  clear HE1
  have h3 := sPatch hp10 OK.out (N : Int) 0 [97] (by omega) (by simp)
  rw [patchR_none (there_off (.inr (by rw [HN.out]; exact Int.le_refl _)))] at h3
  have HE1 := Lib.hid h3
  obtain ⟨u2, hu0, hu1⟩ := hp10.hdr
  rw [HN.out] at hu0
  clear hp10 h3 hu1
  go_wp2_with fail
  ((refine (show Calls Tryd.prog _ #[.pointer (some ⟨p, 0, none⟩), .int .i64 (N : Int), .int .i64 0, .string (sb [97])] _ _ from HE1.out).mono ?_); rintro e w11 ⟨rfl, hp11⟩)
  clear HE1 hu0
  have h3 := pText hp11
  rw [HZ.out] at h3
  have HE1 := Lib.hid h3
  clear hp11 h3
  go_wp2_with fail
  ((with_reducible refine HE1.out.mono ?_); rintro e w12 ⟨rfl, hp12⟩)
  have H12 := Lib.hid (show Since w.heap.size w w12 from Keep.trans H01.out (Since.mono hp12.since H01.out.size))
  clear HE1 hp12 HZ HL OK HK HN NN HZL
  go_wp2_with fail
  ((with_reducible refine (HNW.out w12).mono ?_); rintro e w13 ⟨⟨v, rfl⟩, hs13⟩)
  have H13 := Lib.hid (Keep.trans H12.out (Since.mono hs13 H12.out.size))
  clear hs13 HNW H12 H01
  have h3 : (decide (1 ≤ m) = true ∧ decide (m ≤ 4) = true ∧ mayCpus m = true) ∨ (decide (1 ≤ m) = true ∧ decide (m ≤ 4) = false ∧ mayCpus m = false) ∨ (decide (1 ≤ m) = false ∧ decide (m ≤ 4) = decide (m ≤ 4) ∧ mayCpus m = false) := by
    unfold mayCpus
    cases decide (1 ≤ m) <;> cases decide (m ≤ 4) <;> simp
  rcases h3 with ⟨g1, g2, g3⟩ | ⟨g1, g2, g3⟩ | ⟨g1, g2, g3⟩ <;> (
    rw [g3]
    first | rw [if_pos rfl] | rw [if_neg (by decide)]
    clear g3
    go_wp2_with fail
    have HZ := Lib.hid (show Shut (w13.alloc (.cells #[.pointer none, .slice none 0 0, .slice none 0 0, .int .i64 0] 63)) (.pointer (some ⟨w13.heap.size, 0, none⟩)) from .inr ⟨_, rfl, (blk_cell (heap_alloc_new _ _) 0).trans rfl⟩)
    have HN := Lib.hid (fun W : World => (show Shut W (.pointer none) from .inl rfl))
    have H14 := Lib.hid (Keep.trans H13.out (Keep.mono ((Keep.refl (fun _ => False) w13).alloc' (.cells #[.pointer none, .slice none 0 0, .slice none 0 0, .int .i64 0] 63)) (fun _ h => h.elim)))
    clear H13
    ((refine (show Calls Tryd.prog _ #[.pointer none, modV [97] MX.zero] _ _ from shut_add (HN.out _) [97] MX.zero).mono ?_); rintro e w15 ⟨rfl, hk15⟩)
    obtain ⟨b, hb⟩ : ∃ b, w13.heap.size = b := ⟨_, rfl⟩
    rw [hb] at HZ ⊢
    have Z15 := Lib.hid (HZ.out.keep hk15)
    have H15 := Lib.hid (Keep.trans H14.out (Keep.mono hk15 (fun _ h => h.elim)))
    clear HZ H14 hb hk15
    go_wp2_with fail
    ((with_reducible refine (shut_enter Z15.out 0 0).mono ?_); rintro e w16 ⟨rfl, rfl⟩)
    go_wp2_with fail
    ((with_reducible refine (shut_module (HN.out _) 0).mono ?_); rintro e w17 ⟨rfl, hs17⟩)
    have hcb := copied (w := w17) 43 z9 (mcells [] MX.zero).toArray
    have hk18 : Since w15.heap.size w15 ((w17.alloc (.cells z9 43)).setRow w17.heap.size (mcells [] MX.zero).toArray) := Keep.trans hs17 (Keep.trans (Since.of ((Keep.refl (fun _ => False) w17).alloc' _)) (Keep.mono setRow_keep (fun i e => by have := hs17.size; omega)))
    have Z18 := Lib.hid (Z15.out.since hk18)
    have H18 := Lib.hid (Keep.trans H15.out (Since.mono hk18 H15.out.size))
    have RA := Lib.hid (MX.zero.all [])
    have hmv : modV [] MX.zero = .agg (mcells [] MX.zero).toArray := rfl
    have hms : (mcells [] MX.zero).toArray.size = 9 := rfl
    obtain ⟨mc, hmc⟩ : ∃ mc, (mcells [] MX.zero).toArray = mc := ⟨_, rfl⟩
    rw [hmc] at Z18 H18 RA hmv hms
    rw [hmv]
    have RS9 := Lib.hid hms
    unfold z9 at Z18 H18
    clear hmc hmv hms hcb hk18 hs17 Z15 H15
    go_wp2_with (refine wpList_store_row rfl 43 (.tmp 28) (.tmp 151) rfl w17.heap.size 43 z9 mc rfl rfl (by exact heap_alloc_new _ _) (by rw [RS9.out]; kernel_rfl) (by rw [RS9.out]; rfl) RA.out ?_)
    obtain ⟨wz, hwz⟩ : ∃ wz : World, ((w17.alloc (.cells #[.int .i64 0, .int .i64 0, .string ⟨#[]⟩, .slice none 0 0, .slice none 0 0, .slice none 0 0, .int .i64 0, .int .i64 0, .slice none 0 0] 43)).setRow w17.heap.size mc) = wz := ⟨_, rfl⟩
    rw [hwz] at Z18 H18
    rw [hwz]
    clear hwz RA RS9
    ((with_reducible refine (shut_safe (HN.out _) 0).mono ?_); rintro e w' ⟨rfl, rfl⟩)
    go_wp2_with fail
    ((with_reducible refine (shut_drop Z18.out 0).mono ?_); rintro e w' ⟨rfl, rfl⟩)
    go_wp2_with fail
    ((with_reducible refine (shut_patch (HN.out _) 0 0 ⟨#[97]⟩).mono ?_); rintro e w' ⟨rfl, rfl⟩)
    go_wp2_with fail
    ((with_reducible refine (shut_leave Z18.out 0).mono ?_); rintro e w' ⟨rfl, rfl⟩)
    go_wp2_with fail
    ((with_reducible refine (shut_free (HN.out _)).mono ?_); rintro e w' ⟨rfl, rfl⟩)
    go_wp2_with fail
    ((with_reducible refine (shut_free Z18.out).mono ?_); rintro e w' ⟨rfl, rfl⟩)
    go_wp2_with fail
    ((with_reducible refine (shut_text (HN.out _)).mono ?_); rintro e w' ⟨rfl, rfl⟩)
    go_wp2_with fail
    ((with_reducible refine (shut_live (HN.out _)).mono ?_); rintro e w' ⟨rfl, rfl⟩)
    go_wp2_with fail
    go_ret
    exact ⟨rfl, H18.out⟩)
theorem errors_walk (x : Int) (hx : 0 ≤ x ∧ x ≤ 255) (A : Option Addr) (n c : Nat) (l : List Act') (m : Int) (hm : -9223372036854775808 ≤ m ∧ m ≤ 9223372036854775807) (w : World) (hA : ActsAt w A n l) (hT : TB w) :
    Calls Tryd.prog 7 #[.int .u8 x, .slice A n c, .int .i64 m] w fun e w' => e = .returned (.bool true) ∧ Below w.heap.size w w' := by
  obtain ⟨k, rfl⟩ : ∃ k : Nat, x = (k : Int) := ⟨x.toNat, by omega⟩
  refine (errors_any w hT k (by omega) hA m).mono ?_
  rintro e w' ⟨h1, h2⟩
  exact ⟨h1, below_since h2 rfl⟩
set_option maxRecDepth 100000 in
theorem errors_lifted (os : Os) (started : os.Started) (H : Type) (enc : TypeId × Value → H) :
    ReturnsInHanded {} Tryd.checked os 7 .any (fun w args => (Rows.installErrorsSpec.pre enc Tryd.prog Tryd.f7 Rows.installErrorsRow.domain false w args ∧ laidMet Tryd.prog Rows.installErrorsRow.laid w) ∧ sizedMet enc Tryd.prog Tryd.f7 (OpenSpec.ofChange Rows.installErrorsSpec) false w args) (Rows.installErrorsSpec.post enc Tryd.prog Tryd.f7 false true false false) := by
  refine law_lift_laid (C := Tryd.checked) (X := fun w _ => laidMet Tryd.prog tabs w) (fun _ _ _ hh h => h.of_heap hh) Tryd.own started (by kernel_rfl) Tryd.func7
    (ChangeSpec.witness_at (enc := enc) (C := Tryd.checked) (os := os) (X := fun w _ => laidMet Tryd.prog tabs w) false (laidWorld os) #[.int .u8 0, .slice none 0 0, .int .i64 0] 8 rfl (by kernel_rfl) (by kernel_rfl) (by kernel_rfl) (by kernel_rfl) (by kernel_rfl) (laidWorld_met os _))
    Tryd.laidOut (by kernel_rfl) rfl rfl Tryd.underlying4 ?_ ?_
  · intro ds hl
    match ds, hl with
    | [d1, d2, d3], _ => exact ⟨rfl, rfl, rfl⟩
  · intro W base args ds p hval0 hA0 hlt hsz0 hL
    have hval : ∀ (j : Nat) t v, Tryd.f7.params[j]? = some t → args[j]? = some v → Value.okWide Tryd.prog W .any base t v := hval0
    have hA : DataW.TrodAll enc Tryd.prog W 0 (fun _ => true) true Tryd.f7.params.toList args.toList ds p := hA0
    have hsz : (DataW.weightsEach Tryd.prog Tryd.f7.params.toList ds).all (· ≤ reachBytes) = true := hsz0
    rw [Tryd.params7] at hA hval hsz
    clear hA0 hval0 hsz0
    obtain ⟨v0, v1, v2, d0, d1, d2, p0, p1, p2, rfl, rfl, rfl, h0, h1, h2⟩ := trodAll_three hA
    have hlt0 : ∀ x ∈ p0, x.block < W.heap.size := fun x hx => hlt x (by simp [hx])
    have hlt1 : ∀ x ∈ p1, x.block < W.heap.size := fun x hx => hlt x (by simp [hx])
    have hlt2 : ∀ x ∈ p2, x.block < W.heap.size := fun x hx => hlt x (by simp [hx])
    obtain ⟨x, rfl, rfl, rfl, wx⟩ := open_int Tryd.underlying5 (hval 0 5 v0 rfl rfl) h0
    obtain ⟨Al, nl, cl, l, rfl, il⟩ := open_acts Tryd.underlying22 Tryd.underlying69 (by kernel_rfl) (by kernel_rfl) Tryd.underlying3 Tryd.underlying3 Tryd.underlying3 (hval 1 22 v1 rfl rfl) h1 hlt1
    obtain ⟨m, rfl, rfl, rfl, wm⟩ := open_int Tryd.underlying3 (hval 2 3 v2 rfl rfl) h2
    exact errors_walk x (bd_u8 wx) Al nl cl l m (bd_i64 wm) W il (tb_of_laid hL)

/-- The row. -/
theorem errors_row : Rows.InstallErrorsSaid :=
  OpenClaim.holds_of_wide 7 Tryd.f7 rfl rfl rfl rfl rfl rfl rfl ⟨rfl, rfl, rfl, rfl, rfl⟩ rfl rfl rfl rfl rfl (by kernel_rfl) Tryd.func7 (by kernel_rfl)
    (of_decide_eq_true (by kernel_rfl)) (by unfold Func.isWrapper; first | (rw [if_pos (by decide +kernel)]; kernel_rfl) | (rw [if_neg (by decide +kernel)]; exact ⟨rfl, rfl⟩))
    (fun os started H enc _ => errors_lifted os started H enc)
/-- The statement: the tied card. -/
theorem errors_holds : Rows.InstallErrorsCardSaid :=
  Claim7.holds_tied_plain_at .later [] [.data, .data, .data] true (true, "5af076ab2390d91f9d095ba662174c590b4b6eb6aef3ce95ba3380a4cb301d37") false
    errors_row (fun _ h => by cases h) (by kernel_rfl) (fun _ h => by cases h) installErrors_row_tie rfl ⟨rfl, rfl⟩ (by kernel_rfl) rfl
    (fun f fn hf hfn => by
      obtain rfl : f = 7 := Option.some.inj ((show Tryd.prog.funcNamed "facsimile/facsimilelaw28.InstallErrors" = some 7 by kernel_rfl).symm.trans hf) |>.symm
      obtain rfl : fn = Tryd.f7 := (Option.some.inj (Tryd.func7.symm.trans hfn)).symm
      exact ⟨by kernel_rfl, fun j t ht => by
        have h := List.all_eq_true.1 (show (Tryd.f7.params.toList.all fun t => !Tryd.prog.wantsStandIn t) = true by kernel_rfl) t (List.mem_of_getElem? (by simpa using ht))
        exact (show Tryd.prog.wantsStandIn t = false by simpa using h)⟩)
    (by kernel_rfl)
#print axioms errors_holds
end Go.Proofs.YtnhajhejkecihaaDoor
