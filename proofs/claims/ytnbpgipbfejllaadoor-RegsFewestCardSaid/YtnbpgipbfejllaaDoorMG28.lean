/- graph: right exits (the program's). -/
import Derived.Test.YtnbpgipbfejllaaDoorMG40
import Derived.Test.YtnbpgipbfejllaaDoorMG27
import Derived.Shelf.Abstract
namespace Go.Proofs.YtnbpgipbfejllaaDoor
open Go.RowKit Go.Lib
set_option linter.unusedVariables false
set_option linter.unusedSimpArgs false
attribute [local go_sem] Oper.semAt_some

theorem blk_lt' {w : World} {b : Nat} {o : Obj} (h : w.heap[b]? = some o) : b < w.heap.size := (Array.getElem?_eq_some_iff.1 h).1
theorem Shape.no17 {T : TR} {P k : Nat} {x : TI} (h : Shape T P k x) : (x.op == 17) = false := by cases h <;> rfl
section
variable {w w' : World} {A : Option Addr} {ca : Nat} {E : Option Addr} {ce : Nat} {R : List RI} {X : List RX} {T : TR}
set_option maxRecDepth 100000 in
set_option maxHeartbeats 4000000 in
theorem gexit_any {P : Nat} (h : TA w A ca E ce R X T) (hr : RightT P T) {k : Nat} (hk : k < T.ins.length) (r : RX) (hf : r.Fits w) (he : ExOK T k r.x) (mp : Nat) :
    Calls Tryd.prog 71 #[chkV A ca E ce T mp, .agg r.cells.toArray, .int .i64 (k : Int)] w fun e w' => e = .returned (.bool true) ∧ Since w.heap.size w w' := by
  have HE := Lib.hid he
  have HR := Lib.hid hr
  have HT := Lib.hid h
  have HF := Lib.hid hf
  have hlen : r.F.length = r.x.frames.length := by rw [← hf.2.2, List.length_map]
  have HEV := Lib.hid (show ∀ f ∈ r.F, (0 ≤ f.x.fn ∧ 0 ≤ f.x.ln ∧ f.x.vars.length ≤ 24) from fun f hm => by
    have h9 := he.each f.x (by rw [← hf.2.2]; exact List.mem_map_of_mem hm)
    exact ⟨h9.1, h9.2.1, h9.2.2.1⟩)
  have HNM := Lib.hid (show ∀ v ∈ r.x.rows.flatten, Named T k v from fun v hv => by
    obtain ⟨l, hl, hvl⟩ := List.mem_flatten.1 hv
    obtain ⟨f, hf2, rfl⟩ := List.mem_map.1 hl
    exact (he.each f hf2).2.2.2 v hvl)
  have hN2 := he.many
  have hbk := he.back
  have HKN := Lib.hid hk
  have hfew := hr.few
  clear h hr hk hf he
  obtain ⟨x, A2, c2, F⟩ := r
  unfold RX.cells chkV
  dsimp only at hlen hN2 hbk HE HEV HNM ⊢
  obtain ⟨back, hback⟩ : ∃ b, x.back = b := ⟨_, rfl⟩
  have HBA := Lib.hid hback
  rw [hback] at hbk ⊢
  obtain ⟨M, hM⟩ : ∃ M, F.length = M := ⟨_, rfl⟩
  obtain ⟨N, hN⟩ : ∃ N, T.ins.length = N := ⟨_, rfl⟩
  rw [← hlen, hM] at hN2
  rw [hN] at hfew
  rw [hM, hN]
  have HM := Lib.hid hM
  have HN := Lib.hid hN
  clear hback hM hN hlen
  refine (callsIn_wide (n := 6)).1 ?_
  refine callsIn_of_wp_marks Tryd.func71 rfl trivial ?_ rfl
  simp only [Tryd.ntmps71, List.size_toArray, List.length_cons, List.length_nil, Nat.reduceAdd, Nat.reduceSub, Array.replicate_succ, Array.replicate_zero, List.push_toArray, List.append_toArray, List.nil_append, List.cons_append]
  refine wpIn_wide.2 ?_
  obtain ⟨Q, hQ⟩ : ∃ Q, bodyPostM Fence.wide 6 Tryd.prog Tryd.f71 (fun e w' => e = .returned (.bool true) ∧ Since w.heap.size w w') = Q := ⟨_, rfl⟩
  rw [hQ]
  have HQ := Lib.hid hQ
  clear hQ
  have hmm := @run_makeMap Tryd.prog
  have hm1 : decide (M < 1) = false := by simp; omega
  have hm2 : decide (6 < M) = false := by simp; omega
  have hm3 : decide (back < 0) = false := by simp; omega
  go_upto_region 4 with (fail)
  have B0 := Lib.hid (show ((((((w.alloc (.cells #[.int .i64 T.pf, .int .i64 T.pl, .slice A N ca, .slice E T.exits.length ce, .map (some mp)] 99)).alloc (.cells #[.slice A2 M c2, .slice none 0 0, .int .i64 back] 83)).alloc (.cells #[.int .i64 (k : Int)] 3)).alloc (.cells #[.bool false] 4)).alloc (.map #[] 0)).alloc (.cells #[.map (some (w.heap.size + 1 + 1 + 1 + 1))] 97)).heap[w.heap.size]? = some (.cells #[.int .i64 T.pf, .int .i64 T.pl, .slice A N ca, .slice E T.exits.length ce, .map (some mp)] 99 (0, 0)) from alloc_old' (alloc_old' (alloc_old' (alloc_old' (alloc_old' (heap_alloc_new w (.cells #[.int .i64 T.pf, .int .i64 T.pl, .slice A N ca, .slice E T.exits.length ce, .map (some mp)] 99)))))))
  have B1 := Lib.hid (show ((((((w.alloc (.cells #[.int .i64 T.pf, .int .i64 T.pl, .slice A N ca, .slice E T.exits.length ce, .map (some mp)] 99)).alloc (.cells #[.slice A2 M c2, .slice none 0 0, .int .i64 back] 83)).alloc (.cells #[.int .i64 (k : Int)] 3)).alloc (.cells #[.bool false] 4)).alloc (.map #[] 0)).alloc (.cells #[.map (some (w.heap.size + 1 + 1 + 1 + 1))] 97)).heap[(w.alloc (.cells #[.int .i64 T.pf, .int .i64 T.pl, .slice A N ca, .slice E T.exits.length ce, .map (some mp)] 99)).heap.size]? = some (.cells #[.slice A2 M c2, .slice none 0 0, .int .i64 back] 83 (0, 0)) from alloc_old' (alloc_old' (alloc_old' (alloc_old' (heap_alloc_new (w.alloc (.cells #[.int .i64 T.pf, .int .i64 T.pl, .slice A N ca, .slice E T.exits.length ce, .map (some mp)] 99)) (.cells #[.slice A2 M c2, .slice none 0 0, .int .i64 back] 83))))))
  have B2 := Lib.hid (show ((((((w.alloc (.cells #[.int .i64 T.pf, .int .i64 T.pl, .slice A N ca, .slice E T.exits.length ce, .map (some mp)] 99)).alloc (.cells #[.slice A2 M c2, .slice none 0 0, .int .i64 back] 83)).alloc (.cells #[.int .i64 (k : Int)] 3)).alloc (.cells #[.bool false] 4)).alloc (.map #[] 0)).alloc (.cells #[.map (some (w.heap.size + 1 + 1 + 1 + 1))] 97)).heap[((w.alloc (.cells #[.int .i64 T.pf, .int .i64 T.pl, .slice A N ca, .slice E T.exits.length ce, .map (some mp)] 99)).alloc (.cells #[.slice A2 M c2, .slice none 0 0, .int .i64 back] 83)).heap.size]? = some (.cells #[.int .i64 (k : Int)] 3 (0, 0)) from alloc_old' (alloc_old' (alloc_old' (heap_alloc_new ((w.alloc (.cells #[.int .i64 T.pf, .int .i64 T.pl, .slice A N ca, .slice E T.exits.length ce, .map (some mp)] 99)).alloc (.cells #[.slice A2 M c2, .slice none 0 0, .int .i64 back] 83)) (.cells #[.int .i64 (k : Int)] 3)))))
  have B3 := Lib.hid (show ((((((w.alloc (.cells #[.int .i64 T.pf, .int .i64 T.pl, .slice A N ca, .slice E T.exits.length ce, .map (some mp)] 99)).alloc (.cells #[.slice A2 M c2, .slice none 0 0, .int .i64 back] 83)).alloc (.cells #[.int .i64 (k : Int)] 3)).alloc (.cells #[.bool false] 4)).alloc (.map #[] 0)).alloc (.cells #[.map (some (w.heap.size + 1 + 1 + 1 + 1))] 97)).heap[(((w.alloc (.cells #[.int .i64 T.pf, .int .i64 T.pl, .slice A N ca, .slice E T.exits.length ce, .map (some mp)] 99)).alloc (.cells #[.slice A2 M c2, .slice none 0 0, .int .i64 back] 83)).alloc (.cells #[.int .i64 (k : Int)] 3)).heap.size]? = some (.cells #[.bool false] 4 (0, 0)) from alloc_old' (alloc_old' (heap_alloc_new (((w.alloc (.cells #[.int .i64 T.pf, .int .i64 T.pl, .slice A N ca, .slice E T.exits.length ce, .map (some mp)] 99)).alloc (.cells #[.slice A2 M c2, .slice none 0 0, .int .i64 back] 83)).alloc (.cells #[.int .i64 (k : Int)] 3)) (.cells #[.bool false] 4))))
  have B5 := Lib.hid (show ((((((w.alloc (.cells #[.int .i64 T.pf, .int .i64 T.pl, .slice A N ca, .slice E T.exits.length ce, .map (some mp)] 99)).alloc (.cells #[.slice A2 M c2, .slice none 0 0, .int .i64 back] 83)).alloc (.cells #[.int .i64 (k : Int)] 3)).alloc (.cells #[.bool false] 4)).alloc (.map #[] 0)).alloc (.cells #[.map (some (w.heap.size + 1 + 1 + 1 + 1))] 97)).heap[(((((w.alloc (.cells #[.int .i64 T.pf, .int .i64 T.pl, .slice A N ca, .slice E T.exits.length ce, .map (some mp)] 99)).alloc (.cells #[.slice A2 M c2, .slice none 0 0, .int .i64 back] 83)).alloc (.cells #[.int .i64 (k : Int)] 3)).alloc (.cells #[.bool false] 4)).alloc (.map #[] 0)).heap.size]? = some (.cells #[.map (some (w.heap.size + 1 + 1 + 1 + 1))] 97 (0, 0)) from heap_alloc_new (((((w.alloc (.cells #[.int .i64 T.pf, .int .i64 T.pl, .slice A N ca, .slice E T.exits.length ce, .map (some mp)] 99)).alloc (.cells #[.slice A2 M c2, .slice none 0 0, .int .i64 back] 83)).alloc (.cells #[.int .i64 (k : Int)] 3)).alloc (.cells #[.bool false] 4)).alloc (.map #[] 0)) (.cells #[.map (some (w.heap.size + 1 + 1 + 1 + 1))] 97))
  have HK := Lib.hid (show Keep (fun _ => False) w ((((((w.alloc (.cells #[.int .i64 T.pf, .int .i64 T.pl, .slice A N ca, .slice E T.exits.length ce, .map (some mp)] 99)).alloc (.cells #[.slice A2 M c2, .slice none 0 0, .int .i64 back] 83)).alloc (.cells #[.int .i64 (k : Int)] 3)).alloc (.cells #[.bool false] 4)).alloc (.map #[] 0)).alloc (.cells #[.map (some (w.heap.size + 1 + 1 + 1 + 1))] 97)) from ((((((Keep.refl (fun _ => False) w).alloc' _).alloc' _).alloc' _).alloc' _).alloc' _).alloc' _)
  obtain ⟨W, hW⟩ : ∃ W : World, ((((((w.alloc (.cells #[.int .i64 T.pf, .int .i64 T.pl, .slice A N ca, .slice E T.exits.length ce, .map (some mp)] 99)).alloc (.cells #[.slice A2 M c2, .slice none 0 0, .int .i64 back] 83)).alloc (.cells #[.int .i64 (k : Int)] 3)).alloc (.cells #[.bool false] 4)).alloc (.map #[] 0)).alloc (.cells #[.map (some (w.heap.size + 1 + 1 + 1 + 1))] 97)) = W := ⟨_, rfl⟩
  simp only [World.size_alloc] at B0 B1 B2 B3 B5
  rw [hW] at B0 B1 B2 B3 B5 HK
  rw [hW]
  obtain ⟨q, hq⟩ : ∃ q, w.heap.size = q := ⟨_, rfl⟩
  have HSZ := Lib.hid (show W.heap.size = q + 1 + 1 + 1 + 1 + 1 + 1 by rw [← hW, ← hq]; simp)
  rw [hq] at B0 B1 B2 B3 B5
  rw [hq]
  have HQQ := Lib.hid hq
  clear hW hmm hq
  have c1 := (blk_cell B1.out 1).trans rfl
  go_wp2_with fail
  go_loopw [33] (fun i wr => i = .int .i64 0 ∧ Hid (W = wr)) (fun i _ => 0)
  case atStart => exact ⟨rfl, Lib.hid rfl⟩
  case round =>
    obtain ⟨rfl, HW0⟩ := hrel
    obtain ⟨wo, rfl⟩ : ∃ wo : World, wo = wr := ⟨_, rfl⟩
    obtain rfl := HW0.out
    clear c1
    have c0 := (blk_cell B1.out 0).trans rfl
    go_wp2_with fail
    go_loopw [90] (fun i wr => ∃ j : Nat, j ≤ M ∧ i = .int .i64 (j : Int) ∧ Hid (Keep (fun _ => False) W wr)) (fun i _ => M - (RowKit.intOf i).toNat)
    case atStart => exact ⟨0, Nat.zero_le _, rfl, Lib.hid (Keep.refl _ _)⟩
    case round =>
      obtain ⟨j, hj, rfl, HW⟩ := hrel
      obtain ⟨wo, rfl⟩ : ∃ wo : World, wo = wr := ⟨_, rfl⟩
      clear c0
      by_cases hlt : j < M
      · have hb1 : decide (j < M) = true := by simpa using hlt
        obtain ⟨g, o, rfl, hc⟩ := (HF.out.keep (Keep.trans HK.out HW.out) (fun _ _ _ => id) (fun _ _ _ => id)).frame3 (k := j) (by rw [HM.out]; exact hlt)
        obtain ⟨h1, h2, h3⟩ := HEV.out _ (getD_mem (show j < F.length by rw [HM.out]; exact hlt) : F.getD j RF.dflt ∈ F)
        obtain ⟨fr, hfe⟩ : ∃ fr, F.getD j RF.dflt = fr := ⟨_, rfl⟩
        dsimp only at hc
        rw [hfe] at hc h1 h2 h3
        obtain ⟨⟨fn, ln, vars⟩, Av, cv⟩ := fr
        dsimp only at hc h1 h2 h3
        have z0 : wo.cell? ⟨g, o + j * 3, none⟩ = some (.int .i64 fn) := (hc 0 (by omega)).trans rfl
        have z1 : wo.cell? ⟨g, o + j * 3 + 1, none⟩ = some (.int .i64 ln) := (hc 1 (by omega)).trans rfl
        have z2 : wo.cell? ⟨g, o + j * 3 + 2, none⟩ = some (.slice Av vars.length cv) := (hc 2 (by omega)).trans rfl
        obtain ⟨V, hV⟩ : ∃ V, vars.length = V := ⟨_, rfl⟩
        rw [hV] at z2 h3
        have d1 : decide (fn < 0) = false := by simp; omega
        have d2 : decide (ln < 0) = false := by simp; omega
        have d3 : decide (24 < V) = false := by simp; omega
        have HKO := Lib.hid (Keep.trans HW.out ((Keep.refl (fun _ => False) wo).alloc' (.cells #[.int .i64 fn, .int .i64 ln, .slice Av V cv] 95)))
        clear hc hfe hV d1 d2 d3
        go_wp2_with fail
        exact ⟨⟨j + 1, by omega, by go_num, HKO⟩, by simp [RowKit.intOf]; omega⟩
      · have hb1 : decide (j < M) = false := by simpa using hlt
        obtain rfl : j = M := by omega
        have a0 := (blk_cell ((HW.out.block _ (by rw [HSZ.out]; omega) id).trans B1.out) 0).trans rfl
        have a1 := (blk_cell ((HW.out.block _ (by rw [HSZ.out]; omega) id).trans B1.out) 1).trans rfl
        have a2 := (blk_cell ((HW.out.block _ (by rw [HSZ.out]; omega) id).trans B1.out) 2).trans rfl
        go_wp2_with fail
        have HMT : Hid (Calls Tryd.prog 40 #[.agg #[.slice A2 j c2, .slice none 0 0, .int .i64 back]] wo fun e w' => e = .returned (.func (.func 60) #[] #[.pointer (some ⟨wo.heap.size, 0, none⟩)]) ∧ w' = wo.alloc (.cells #[.slice A2 j c2, .slice none 0 0, .int .i64 back] 83)) := Lib.hid (by
          have h9 := mentioned_any ⟨x, A2, c2, F⟩ wo
          unfold RX.cells at h9
          dsimp only at h9
          rw [HM.out, HBA.out] at h9
          exact h9)
        ((with_reducible refine HMT.out.mono ?_); rintro ee w' ⟨rfl, rfl⟩)
        have HBM := Lib.hid (heap_alloc_new wo (.cells #[.slice A2 j c2, .slice none 0 0, .int .i64 back] 83))
        have HKM := Lib.hid (Keep.trans HW.out ((Keep.refl (fun _ => False) wo).alloc' (.cells #[.slice A2 j c2, .slice none 0 0, .int .i64 back] 83)))
        have HLT := Lib.hid (show wo.heap.size < (wo.alloc (.cells #[.slice A2 j c2, .slice none 0 0, .int .i64 back] 83)).heap.size by simp)
        obtain ⟨wm, hwm⟩ : ∃ wm : World, wo.alloc (.cells #[.slice A2 j c2, .slice none 0 0, .int .i64 back] 83) = wm := ⟨_, rfl⟩
        obtain ⟨bm, hbm⟩ : ∃ bm, wo.heap.size = bm := ⟨_, rfl⟩
        rw [hwm] at HBM HKM HLT
        rw [hbm] at HBM HLT
        rw [hwm, hbm]
        clear hwm hbm HMT a0 a1 a2 HW
        have HFM := Lib.hid (HF.out.keep (Keep.trans HK.out HKM.out) (fun _ _ _ => id) (fun _ _ _ => id))
        go_wp2_with fail
        refine (wpIn_wide (n := 6)).1 ?_
        have hst := ment_stops (6 - 1) (by omega) bm wm.heap.size ⟨x, A2, c2, F⟩ HFM.out (by show F.length ≤ 1000; rw [HM.out]; omega) (fun f hf => by have := (HEV.out f hf).2.2; omega) (by unfold RX.cells; dsimp only; rw [HM.out, HBA.out]; exact HBM.out) (Nat.ne_of_lt HLT.out) (fun cur => by simp) (Named T k) HNM.out
        refine' wpIn_rangeFunc_ownF rfl (by omega) (gf := 60) (lb := #[.pointer (some ⟨bm, 0, none⟩)]) rfl trivial (enters_of Tryd.func60 (by kernel_rfl) rfl)
          hst (fun h k => Keep.trans h k) (fun W1 l o o' hl hh _ _ => (Keep.refl _ W1).grown (grownBy_putObj' W1 l o') (fun k e => .inl (by cases e; exact .inr hl))) (Below.refl _ _) (fun _ => rfl)
          (fun _ W1 => Keep (FB8 wm wm.heap.size) wm W1) (fun _ _ _ => False) (fun _ W1 W2 row hs hg hr => Keep.trans hs ((Keep.refl _ W1).grown hg (fun k e => .inl (.inr (hr k e).1)))) (fun _ _ _ _ _ hs _ _ => hs) (Keep.refl _ _) _ ?assign ?body ?done ?stop
        case assign =>
          intro l v W1 K hK
          gi_wp2
          exact hK
        case body =>
          rintro l pre ⟨v, hv⟩ W1 hI _
          dsimp only
          have HVH := Lib.hid hv
          have HII := Lib.hid hI
          have hold : ∀ {b : Nat} {o : Obj}, b < q + 1 + 1 + 1 + 1 + 1 + 1 → W.heap[b]? = some o → W1.heap[b]? = some o := fun {b o} hb ho => (hI.block b (by have := HKM.out.size; rw [HSZ.out] at this; omega) (by have := HKM.out.size; rw [HSZ.out] at this; rintro (e | e) <;> omega)).trans ((HKM.out.block b (by rw [HSZ.out]; omega) id).trans ho)
          have b0 := hold (by omega) B0.out
          have b2 := hold (by omega) B2.out
          have a0 := (blk_cell b0 0).trans rfl
          have a1 := (blk_cell b0 1).trans rfl
          have a2 := (blk_cell b0 2).trans rfl
          have a3 := (blk_cell b0 3).trans rfl
          have a4 := (blk_cell b0 4).trans rfl
          have d0 := (blk_cell b2 0).trans rfl
          have HT1 := Lib.hid (HT.out.since (Keep.trans (Since.of (Keep.trans HK.out HKM.out)) (Keep.mono HII.out (fun k e => by have h1 := HKM.out.size; rw [HSZ.out] at h1; rw [HQQ.out]; rcases e with e | e <;> omega))))
          clear hI
          by_cases h1 : v = -1
          · have hb1 : (v == -1) = true := by simpa using h1
            have hb2 : (v != -1) = false := by simp [h1]
            clear h1
            gi_wp2
            refine ⟨trivial, ?_⟩
            gi_wp2
            exact ⟨KeepsOthers.refl _, Keep.refl _ _, HII.out⟩
          · have hb1 : (v == -1) = false := by simpa using h1
            have hVB : VB T k v := HVH.out.resolve_left h1
            have HVV := Lib.hid (gval_any HT1.out hVB (Nat.le_of_lt HKN.out) (by rw [HN.out]; omega) mp)
            unfold chkV at HVV
            rw [HN.out] at HVV
            obtain ⟨u, hu, huk, hop⟩ := hVB
            have HUK := Lib.hid huk
            have hN17 := (HR.out.good.shape u (by have := HKN.out; omega)).1.no17
            have HN17 := Lib.hid hN17
            have hdep : 1 ≤ 6 - 1 - 1 := by omega
            have hmix : Tryd.prog.follows .mixedOrders = true := by kernel_rfl
            subst hu
            have B0' := Lib.hid b0
            clear hop hN17 hold b0 b2 huk
            gi_wp2
            refine ⟨trivial, ?_⟩
            refine (CallsIn.inRound l (callsIn_wide.2 HVV.out)).mono ?_
            rintro e3 W3 ⟨rfl, hk3⟩
            have HK3 := Lib.hid hk3
            have hold : ∀ {b : Nat} {o : Obj}, W1.heap[b]? = some o → W3.heap[b]? = some o := fun {b o} ho => (hk3.block b (blk_lt' ho) id).trans ho
            have b0 := hold B0'.out
            have y0 := (blk_cell b0 2).trans rfl
            obtain ⟨g, rfl, x0⟩ := (HT1.out.quiet hk3).opAt (k := u) (by have := HKN.out; have := HUK.out; omega)
            obtain ⟨op, ho⟩ : ∃ op, (T.at_ u).op = op := ⟨_, rfl⟩
            have hop := HN17.out
            rw [ho] at x0 hop
            have huN : u < N := by have := HKN.out; have := HUK.out; have := HN.out; omega
            clear hold b0 ho hk3 a0 a1 a2 a3 a4 d0
            gi_wp2
            exact ⟨⟨HK3.out.size, fun i o h1 h2 => (HK3.out.block i (blk_lt' h1) id).trans h1⟩, Keep.mono HK3.out (fun _ h => h.elim), Keep.trans HII.out (Keep.mono HK3.out (fun _ h => h.elim))⟩
        case done =>
          rintro D ys W1 hD _ hI hK
          have b3 := (hI.block (q + 1 + 1 + 1) (by have := HKM.out.size; rw [HSZ.out] at this; omega) (by have := HKM.out.size; rw [HSZ.out] at this; rintro (e | e) <;> omega)).trans ((HKM.out.block (q + 1 + 1 + 1) (by rw [HSZ.out]; omega) id).trans B3.out)
          have c0 := (blk_cell b3 0).trans rfl
          have f0 := blk_free b3 0
          have HKK := Lib.hid hK
          have HII := Lib.hid hI
          have HBB := Lib.hid b3
          clear b3 hK hI
          go_wp2_with fail
          have hDne : D ≠ q + 1 + 1 + 1 := by have := HKM.out.size; rw [HSZ.out] at this; omega
          have e1 : (W1.setCell ⟨q + 1 + 1 + 1, 0, none⟩ (.bool true)).heap[D]? = some (.deferred (some [])) := ((keep_set (Keep.refl (fun i => i = q + 1 + 1 + 1) W1) 0 (.bool true)).block D (blk_lt' HKK.out) hDne).trans HKK.out
          have hks : Keep (fun i => i = q + 1 + 1 + 1) W1 (W1.setCell ⟨q + 1 + 1 + 1, 0, none⟩ (.bool true)) := keep_set (Keep.refl _ W1) 0 (.bool true)
          have hks2 : Keep (fun i => i = D) (W1.setCell ⟨q + 1 + 1 + 1, 0, none⟩ (.bool true)) ((W1.setCell ⟨q + 1 + 1 + 1, 0, none⟩ (.bool true)).putObj D (.deferred none)) := (Keep.refl _ _).grown (grownBy_putObj' _ D _) (fun k e => .inl (by cases e; rfl))
          have e2 := (blk_cell ((hks2.block (q + 1 + 1 + 1) (blk_lt (blk_set HBB.out 0 (.bool true))) (fun e => hDne e.symm)).trans (blk_set HBB.out 0 (.bool true))) 0).trans rfl
          have e5 : Since w.heap.size w ((W1.setCell ⟨q + 1 + 1 + 1, 0, none⟩ (.bool true)).putObj D (.deferred none)) :=
            Keep.trans (Since.of (Keep.trans HK.out HKM.out)) (Keep.trans (Keep.mono HII.out (fun k e => by have h1 := HKM.out.size; rw [HSZ.out] at h1; rw [HQQ.out]; rcases e with e | e <;> omega)) (Keep.trans (Keep.mono hks (fun k e => by rw [HQQ.out]; omega)) (Keep.mono hks2 (fun k e => by have h1 := HKM.out.size; rw [HSZ.out] at h1; rw [HQQ.out]; omega))))
          have HEND := Lib.hid (And.intro e2 e5)
          rw [← HQ.out]
          refine ⟨by simp, .inl ⟨D, _, rfl, run_takeDeferred e1, ?_⟩⟩
          refine ⟨.bool true, ?_, rfl, HEND.out.2⟩
          have e2' := HEND.out.1
          simp [results, Tryd.results71, go_sem, e2']
        case stop =>
          rintro D c pre W _ _ h _
          exact h.elim
end
end Go.Proofs.YtnbpgipbfejllaaDoor
