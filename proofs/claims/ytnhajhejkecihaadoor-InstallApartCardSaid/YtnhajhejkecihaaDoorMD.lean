/- Install: the reference's Safe. -/
import Derived.Test.YtnhajhejkecihaaDoorMC
namespace Go.Proofs.YtnhajhejkecihaaDoor
open Go.RowKit Go.Lib
set_option linter.unusedVariables false
set_option linter.unusedSimpArgs false

def RS.passing (ρ : RS) (c k : Nat) : RS := { ρ with L := (ρ.L.take k).map (ME.passed c) ++ ρ.L.drop k }
theorem RS.passing_zero (ρ : RS) (c : Nat) : ρ.passing c 0 = ρ := rfl
theorem RS.passing_len (ρ : RS) (c k : Nat) : (ρ.passing c k).L.length = ρ.L.length := by simp [RS.passing]; omega
theorem RS.passing_all (ρ : RS) (c : Nat) : ρ.passing c ρ.L.length = ρ.passed c := by simp [RS.passing, RS.passed]
theorem RS.passing_at {ρ : RS} {k : Nat} (c : Nat) (hk : k < ρ.L.length) : (ρ.passing c k).at_ k = ρ.at_ k := by
  unfold RS.at_ RS.passing
  simp only [List.getD_eq_getElem?_getD]
  rw [List.getElem?_append_right (by simp; omega)]
  simp [Nat.min_eq_left (Nat.le_of_lt hk)]
theorem RS.passing_succ {ρ : RS} {k : Nat} (c : Nat) (hk : k < ρ.L.length) : (ρ.passing c k).put k (((ρ.passing c k).at_ k).passed c) = ρ.passing c (k + 1) := by
  rw [RS.passing_at c hk]
  unfold RS.put RS.passing RS.at_
  simp only
  congr 1
  rw [List.set_append_right _ _ (by simp; omega)]
  have e1 : k - ((ρ.L.take k).map (ME.passed c)).length = 0 := by simp; omega
  rw [e1, List.drop_eq_getElem_cons hk, List.set_cons_zero, List.take_succ_eq_append_getElem hk, List.map_append, List.append_assoc]
  rw [List.getD_eq_getElem?_getD, List.getElem?_eq_getElem hk]
  rfl
theorem bools_set (l : List Bool) (c : Nat) (b : Bool) : (bools l).set c (.bool b) = bools (l.set c b) := by simp [bools, List.map_set]
theorem bools_at {l : List Bool} {j : Nat} (h : j < l.length) : (bools l)[j]? = some (.bool (l.getD j false)) := by
  simp [bools, List.getD_eq_getElem?_getD, List.getElem?_eq_getElem h]
theorem gone_after (e : ME) (c : Nat) : (e.gone || (e.dropped && !(e.passed c).owed.any (·))) = (e.passed c).gone := by
  rw [some_free]
  cases h : e.gone with
  | true => rw [gone_passed c h, Bool.true_or]
  | false =>
    rw [Bool.false_or, Bool.not_not]
    rfl
theorem IsRef.pass {n : Nat} {w w2 : World} {q : Nat} {u : RR} {ρ : RS} (h : IsRef n w q u ρ) {k c g o oc : Nat} (hk : k < ρ.L.length) (hc : c < ρ.inn.length) (hA : u.A = some ⟨g, 0, none⟩) (hv : (u.R.getD k RE.dflt).v = .slice (some ⟨o, 0, none⟩) ρ.inn.length oc)
    (h2 : Keep (fun _ => False) (w.setCell ⟨o, c, none⟩ (.bool false)) w2) :
    ∃ u', IsRef n (w2.setCell ⟨g, k * 13 + 11, none⟩ (.bool ((ρ.at_ k).passed c).gone)) q u' (ρ.put k ((ρ.at_ k).passed c)) ∧ Keep (u.foot q) w (w2.setCell ⟨g, k * 13 + 11, none⟩ (.bool ((ρ.at_ k).passed c).gone)) ∧ ∀ i, u'.foot q i → u.foot q i ∨ w.heap.size ≤ i := by
  have hfit := h.fits k hk
  have hol := h.ok.owed _ (RS.at_mem hk)
  have hrow := h.row
  rw [hA] at hrow
  have hown := hfit.own
  rw [hv, hol] at hown
  obtain ⟨cg, hcg⟩ := own_type hrow (k := g) rfl
  obtain ⟨co, hco⟩ := own_type hown (k := o) rfl
  have hgo : g ≠ o := cells_ne hcg hco (by decide)
  have ks := keep_set (Keep.refl (fun i => i = o) w) c (.bool false)
  have hown1 := (hown.stored c (.bool false)).1
  rw [bools_set] at hown1
  have hrow2 := h2.own (ks.own hrow (fun b e => by have : g = b := by simpa [Value.ownBlock] using e
                                                   omega)) (fun _ _ => id)
  have hown2 := h2.own hown1 (fun _ _ => id)
  obtain ⟨cg2, hcg2⟩ := own_type hrow2 (k := g) rfl
  have ks2 := keep_set (Keep.refl (fun i => i = g) w2) (k * 13 + 11) (.bool ((ρ.at_ k).passed c).gone)
  have hown3 := ks2.own hown2 (fun b e => by have : o = b := by simpa [Value.ownBlock] using e
                                             omega)
  have hkR : k < u.R.length := by rw [h.rlen]; exact hk
  have hR := rowR_set u.R k 11 (.bool ((ρ.at_ k).passed c).gone) { (u.R.getD k RE.dflt) with g := ((ρ.at_ k).passed c).gone } hkR (by omega) rfl
  have hone := one_cells hfit.one (r' := { (u.R.getD k RE.dflt) with g := ((ρ.at_ k).passed c).gone }) (i := 11) (v := .bool ((ρ.at_ k).passed c).gone) rfl rfl
  have hrow3 := (hrow2.stored (k * 13 + 11) (.bool ((ρ.at_ k).passed c).gone)).1
  rw [← hR] at hrow3
  refine ⟨_, h.turn hk hA (e' := (ρ.at_ k).passed c) (r' := { (u.R.getD k RE.dflt) with g := ((ρ.at_ k).passed c).gone }) ?_ hrow3 ⟨hfit.b, hfit.a, hfit.d, rfl, ?_, hone⟩ (.inl rfl) (h.ok.put hk rfl (by unfold ME.passed; simp only [List.length_set]; exact hol) (show 0 < (ρ.at_ k).bytes.length ∧ (ρ.at_ k).stop ≤ 256 from h.ok.size _ (RS.at_mem hk)))⟩
  · refine Keep.trans (Keep.trans (Keep.mono ks (fun i e => .inr (by rw [hv, e]; rfl))) (Keep.mono h2 (fun _ => False.elim))) (Keep.mono ks2 (fun i e => .inl e))
  · show World.ownsRow _ 0 _ 1 (u.R.getD k RE.dflt).v ((ρ.at_ k).passed c).owed.length _
    have e1 : ((ρ.at_ k).passed c).owed.length = ρ.inn.length := by unfold ME.passed; simp only [List.length_set]; exact hol
    rw [e1, hv]
    exact hown3
set_option maxRecDepth 100000 in
set_option maxHeartbeats 4000000 in
theorem rsafe_any {n : Nat} {w : World} {q : Nat} {u : RR} {ρ : RS} (h : IsRef n w q u ρ) (id : Int) :
    Calls Tryd.prog 47 #[.pointer (some ⟨q, 0, none⟩), .int .i64 id] w fun e w' => e = .returned (.int .i64 (ρ.safeR id).1) ∧ ∃ u', IsRef n w' q u' (ρ.safeR id).2 ∧ Keep (u.foot q) w w' ∧ ∀ i, u'.foot q i → u.foot q i ∨ w.heap.size ≤ i := by
  have HC := Lib.hid (rcpu_any h id)
  have K0 := Lib.hid (show ∃ u', IsRef n w q u' ρ ∧ Keep (u.foot q) w w ∧ ∀ i, u'.foot q i → u.foot q i ∨ w.heap.size ≤ i from ⟨u, h, Keep.refl _ _, fun _ => .inl⟩)
  unfold RS.safeR
  cases hcpu : ρ.cpu id with
  | false =>
    rw [if_pos rfl]
    rw [hcpu] at HC
    clear hcpu h
    go_enter Tryd.func47, Tryd.ntmps47
    go_wp2_with fail
    ((with_reducible refine HC.out.mono ?_); rintro ee w' ⟨rfl, rfl⟩)
    go_wp2_with fail
    go_ret
    exact ⟨rfl, K0.out⟩
  | true =>
    rw [if_neg (by decide)]
    rw [hcpu] at HC
    obtain ⟨c, rfl, hc⟩ := RS.cpu_nat hcpu
    have c1 := h.c1
    obtain ⟨b, hI, _, hcp⟩ := h.cpus
    have qb := hcp c hc
    have hcpus := h.ok.cpus
    rw [hI] at c1
    simp only [Int.toNat_natCast]
    obtain ⟨M, hM⟩ : ∃ M, ρ.inn.length = M := ⟨_, rfl⟩
    obtain ⟨iv, hiv⟩ : ∃ iv, ρ.inn.getD c 0 = iv := ⟨_, rfl⟩
    have hbusy : ρ.busy (c : Int) = decide (0 ≤ iv) := by unfold RS.busy; rw [Int.toNat_natCast, hiv]
    rw [hbusy]
    rw [hM] at hc c1 hcpus
    rw [hiv] at qb
    by_cases hbz : 0 ≤ iv
    · have hb1 : decide (0 ≤ iv) = true := by simpa using hbz
      rw [hb1, if_pos rfl]
      clear h hcpu hI hcp hM hiv hbusy
      go_enter Tryd.func47, Tryd.ntmps47
      go_wp2_with fail
      ((with_reducible refine HC.out.mono ?_); rintro ee w' ⟨rfl, rfl⟩)
      go_wp2_with fail
      go_ret
      exact ⟨rfl, K0.out⟩
    · have hb1 : decide (0 ≤ iv) = false := by simpa using hbz
      rw [hb1, if_neg (by decide)]
      have H0 := Lib.hid (show IsRef n w q u (ρ.passing c 0) ∧ Keep (u.foot q) w w ∧ ∀ i, u.foot q i → u.foot q i ∨ w.heap.size ≤ i from ⟨h, Keep.refl _ _, fun _ => .inl⟩)
      have hNb := h.ok.len
      obtain ⟨N, hN⟩ : ∃ N, ρ.L.length = N := ⟨_, rfl⟩
      rw [hN] at hNb
      have HN := Lib.hid hN
      have HM := Lib.hid hM
      clear h hcpu hI hcp hM hiv hbusy hN K0
      go_enter Tryd.func47, Tryd.ntmps47
      go_wp2_with fail
      ((with_reducible refine HC.out.mono ?_); rintro ee w' ⟨rfl, rfl⟩)
      go_wp2_with fail
      clear c1 qb HC
      go_loopw [5] (fun i wr => ∃ k : Nat, k ≤ N ∧ i = .int .i64 (k : Int) ∧ ∃ uk, Hid (IsRef n wr q uk (ρ.passing c k) ∧ Keep (u.foot q) w wr ∧ ∀ i, uk.foot q i → u.foot q i ∨ w.heap.size ≤ i)) (fun i _ => N + 1 - (RowKit.intOf i).toNat)
      case atStart => exact ⟨0, Nat.zero_le _, rfl, u, H0⟩
      case round =>
        obtain ⟨k, hkN, rfl, uk, VV⟩ := hrel
        obtain ⟨wo, rfl⟩ : ∃ wo : World, wo = wr := ⟨_, rfl⟩
        clear H0
        have c0 := VV.out.1.c0
        rw [RS.passing_len, HN.out] at c0
        by_cases hlt : k < N
        · have hb : decide (k < N) = true := by simpa using hlt
          have hkl : k < (ρ.passing c k).L.length := by rw [RS.passing_len, HN.out]; exact hlt
          obtain ⟨g, hA, ⟨cg, hcg⟩, hcells⟩ := VV.out.1.rows (by omega)
          have hfit := VV.out.1.fits k hkl
          have hol := VV.out.1.ok.owed _ (RS.at_mem hkl)
          have hMM : (ρ.passing c k).inn.length = M := HM.out
          rw [hMM] at hol
          obtain ⟨o, oc, hv, ⟨co, hco⟩, hoc⟩ := hfit.owes (by omega)
          rw [hol] at hv hoc
          have q10 := hcells k 10 hkl (by omega)
          have q11 := hcells k 11 hkl (by omega)
          have q12 := hcells k 12 hkl (by omega)
          obtain ⟨e, he⟩ : ∃ e, (ρ.passing c k).at_ k = e := ⟨_, rfl⟩
          have e10 : (uk.R.getD k RE.dflt).cells.getD 10 undef = .bool e.dropped := by rw [← he, ← hfit.d]; rfl
          have e11 : (uk.R.getD k RE.dflt).cells.getD 11 undef = .bool e.gone := by rw [← he, ← hfit.g]; rfl
          have e12 : (uk.R.getD k RE.dflt).cells.getD 12 undef = .slice (some ⟨o, 0, none⟩) M oc := hv
          rw [e10] at q10
          rw [e11] at q11
          rw [e12] at q12
          rw [hA] at c0
          rw [he] at hoc hol
          have qo := hoc c hc
          have fo := blk_free hco c
          have hgo : g ≠ o := cells_ne hcg hco (by decide)
          have hqo : q ≠ o := cells_ne VV.out.1.hdr hco (by decide)
          have ks := keep_set (Keep.refl (fun i => i = o) wo) c (.bool false)
          have p0 := cell_kept ks c0 hqo
          have p10 := cell_kept ks q10 hgo
          have p11 := cell_kept ks q11 hgo
          have p12 := cell_kept ks q12 hgo
          have g11 : (wo.setCell ⟨o, c, none⟩ (.bool false)).frozen? ⟨g, k * 13 + 11, none⟩ = false := (keep_frozen ks (blk_lt hcg) hgo).trans (blk_free hcg _)
          have hown := hfit.own
          rw [he, hol, hv] at hown
          have hown1 := (hown.stored c (.bool false)).1
          rw [bools_set] at hown1
          have hpo : (e.passed c).owed = e.owed.set c false := rfl
          have hcs : ∀ j, j < M → (wo.setCell ⟨o, c, none⟩ (.bool false)).cell? ⟨o, j, none⟩ = some (.bool ((e.passed c).owed.getD j false)) := fun j hj => by
            rw [hown1.cellAt j (by omega), hpo]
            exact bools_at (by rw [List.length_set, hol]; exact hj)
          have HP := Lib.hid (fun (w2 : World) (h2 : Keep (fun _ => False) (wo.setCell ⟨o, c, none⟩ (.bool false)) w2) => VV.out.1.pass hkl (by rw [hMM]; exact hc) hA (by rw [hMM]; exact hv) h2)
          rw [he] at HP
          have HSU := Lib.hid (RS.passing_succ c (show k < ρ.L.length by rw [HN.out]; exact hlt))
          rw [he] at HSU
          have HGA := Lib.hid (gone_after e c)
          have hl2 : (e.passed c).owed.length = M := by rw [hpo, List.length_set]; exact hol
          have HL2 := Lib.hid hl2
          obtain ⟨w1, hw1⟩ : ∃ w1, wo.setCell ⟨o, c, none⟩ (.bool false) = w1 := ⟨_, rfl⟩
          have HW1 := Lib.hid hw1
          rw [hw1] at p0 p10 p11 p12 g11 HP
          have HCS := Lib.hid hcs
          have HNX := Lib.hid (fun (w2 : World) (h2 : Keep (fun _ => False) w1 w2) (gv : Bool) (hg : gv = (e.passed c).gone) => show ∃ u', IsRef n (w2.setCell ⟨g, k * 13 + 11, none⟩ (.bool gv)) q u' (ρ.passing c (k + 1)) ∧ Keep (u.foot q) w (w2.setCell ⟨g, k * 13 + 11, none⟩ (.bool gv)) ∧ ∀ i, u'.foot q i → u.foot q i ∨ w.heap.size ≤ i by
            subst hg
            obtain ⟨u', x1, x2, x3⟩ := HP.out w2 h2
            rw [HSU.out] at x1
            refine ⟨u', x1, VV.out.2.1.then x2 VV.out.2.2, fun i hi => ?_⟩
            rcases x3 i hi with y | y
            · exact VV.out.2.2 i y
            · have := VV.out.2.1.size
              exact .inr (by omega))
          obtain ⟨dd, hdd⟩ : ∃ dd, e.dropped = dd := ⟨_, rfl⟩
          obtain ⟨gg, hgg⟩ : ∃ gg, e.gone = gg := ⟨_, rfl⟩
          rw [hdd] at p10 HGA q10
          rw [hgg] at p11 HGA q11
          have C1 := Lib.hid (And.intro p0 (And.intro p10 (And.intro p11 (And.intro p12 g11))))
          have G1 := Lib.hid (show g < w1.heap.size by rw [← HW1.out]; simp [World.setCell]; exact blk_lt hcg)
          clear hfit hcg hcells hco hoc hgo hqo ks hown hown1 hcs hl2 hw1 hdd hgg e10 e11 e12 hv hA hkl hMM he hol p0 p10 p11 p12 g11 hpo HP HSU q10 q11
          go_upto_region 9 with (fail)
          rw [HW1.out]
          clear c0 q12 qo fo
          cases gg with
          | true =>
            have hgv : true = (e.passed c).gone := by have := HGA.out; rwa [Bool.true_or] at this
            have HGV := Lib.hid hgv
            clear hgv
            refine wp_region_drewU (S := (fun w' => Hid (Keep (fun _ => False) w1 w'))) (D := [35, 36, 37]) (by kernel_rfl) (by exact Lib.hid (keep_draw _ w1)) (fun hH => ?_)
            refine wpAnyU_take (i := 0) (v := ?_) rfl (by kernel_rfl) (by kernel_rfl) (by kernel_rfl) (by kernel_rfl) (fun _ _ _ h => h) (Or.inl ⟨by rfl, ?_⟩) hH ?_
            rotate_left
            · (intro w'' hSw; (try dsimp only at hSw); go_simp; try with_reducible rfl)
            change wpAnyU _ _ _ _ _ _ _ _ (Act.put _ (some 37) _) _
            try simp only [Act.put, List.setIfInBounds_toArray, List.set_cons_zero, List.set_cons_succ]
            refine wpAnyU_take (i := 1) (v := ?_) rfl (by kernel_rfl) (by kernel_rfl) (by kernel_rfl) (by kernel_rfl) (fun _ _ _ h => h) (Or.inl ⟨by rfl, ?_⟩) hH ?_
            rotate_left
            · (intro w'' hSw; (try dsimp only at hSw); go_simp; try with_reducible rfl)
            change wpAnyU _ _ _ _ _ _ _ _ (Act.put _ (some 38) _) _
            try simp only [Act.put, List.setIfInBounds_toArray, List.set_cons_zero, List.set_cons_succ]
            refine wpAnyU_take (i := 2) (v := ?_) rfl (by kernel_rfl) (by kernel_rfl) (by kernel_rfl) (by kernel_rfl) (fun _ _ _ h => h) (Or.inl ⟨by rfl, ?_⟩) hH ?_
            rotate_left
            · (intro w'' hSw; (try dsimp only at hSw); go_simp; try with_reducible rfl)
            change wpAnyU _ _ _ _ _ _ _ _ (Act.put _ (some 39) _) _
            try simp only [Act.put, List.setIfInBounds_toArray, List.set_cons_zero, List.set_cons_succ]
            refine wpAnyU_take (i := 3) (v := ?_) rfl (by kernel_rfl) (by kernel_rfl) (by kernel_rfl) (by kernel_rfl) (fun _ _ _ h => h) (Or.inl ⟨by rfl, ?_⟩) hH ?_
            rotate_left
            · (intro w'' hSw; have q := cell_kept hSw.out C1.out.1 id; go_simp; try with_reducible rfl)
            change wpAnyU _ _ _ _ _ _ _ _ (Act.put _ (some 40) _) _
            try simp only [Act.put, List.setIfInBounds_toArray, List.set_cons_zero, List.set_cons_succ]
            refine wpAnyU_take (i := 4) (v := ?_) rfl (by kernel_rfl) (by kernel_rfl) (by kernel_rfl) (by kernel_rfl) (fun _ _ _ h => h) (Or.inl ⟨by rfl, ?_⟩) hH ?_
            rotate_left
            · (intro w'' hSw; (try dsimp only at hSw); go_simp; try with_reducible rfl)
            change wpAnyU _ _ _ _ _ _ _ _ (Act.put _ (some 41) _) _
            try simp only [Act.put, List.setIfInBounds_toArray, List.set_cons_zero, List.set_cons_succ]
            refine wpAnyU_take (i := 5) (v := ?_) rfl (by kernel_rfl) (by kernel_rfl) (by kernel_rfl) (by kernel_rfl) (fun _ _ _ h => h) (Or.inl ⟨by rfl, ?_⟩) hH ?_
            rotate_left
            · (intro w'' hSw; (try dsimp only at hSw); go_simp; try with_reducible rfl)
            change wpAnyU _ _ _ _ _ _ _ _ (Act.put _ (some 42) _) _
            try simp only [Act.put, List.setIfInBounds_toArray, List.set_cons_zero, List.set_cons_succ]
            refine wpAnyU_take (i := 6) (v := ?_) rfl (by kernel_rfl) (by kernel_rfl) (by kernel_rfl) (by kernel_rfl) (fun _ _ _ h => h) (Or.inl ⟨by rfl, ?_⟩) hH ?_
            rotate_left
            · (intro w'' hSw; (try dsimp only at hSw); go_simp; try with_reducible rfl)
            change wpAnyU _ _ _ _ _ _ _ _ (Act.put _ (some 43) _) _
            try simp only [Act.put, List.setIfInBounds_toArray, List.set_cons_zero, List.set_cons_succ]
            refine wpAnyU_take (i := 7) (v := ?_) rfl (by kernel_rfl) (by kernel_rfl) (by kernel_rfl) (by kernel_rfl) (fun _ _ _ h => h) (Or.inl ⟨by rfl, ?_⟩) hH ?_
            rotate_left
            · (intro w'' hSw; (try dsimp only at hSw); go_simp; try with_reducible rfl)
            change wpAnyU _ _ _ _ _ _ _ _ (Act.put _ (some 44) _) _
            try simp only [Act.put, List.setIfInBounds_toArray, List.set_cons_zero, List.set_cons_succ]
            refine wpAnyU_take (i := 8) (v := ?_) rfl (by kernel_rfl) (by kernel_rfl) (by kernel_rfl) (by kernel_rfl) (fun _ _ _ h => h) (Or.inl ⟨by rfl, ?_⟩) hH ?_
            rotate_left
            · (intro w'' hSw; have q := cell_kept hSw.out C1.out.1 id; go_simp; try with_reducible rfl)
            change wpAnyU _ _ _ _ _ _ _ _ (Act.put _ (some 45) _) _
            try simp only [Act.put, List.setIfInBounds_toArray, List.set_cons_zero, List.set_cons_succ]
            refine wpAnyU_take (i := 9) (v := ?_) rfl (by kernel_rfl) (by kernel_rfl) (by kernel_rfl) (by kernel_rfl) (fun _ _ _ h => h) (Or.inl ⟨by rfl, ?_⟩) hH ?_
            rotate_left
            · (intro w'' hSw; (try dsimp only at hSw); go_simp; try with_reducible rfl)
            change wpAnyU _ _ _ _ _ _ _ _ (Act.put _ (some 46) _) _
            try simp only [Act.put, List.setIfInBounds_toArray, List.set_cons_zero, List.set_cons_succ]
            refine wpAnyU_take (i := 10) (v := ?_) rfl (by kernel_rfl) (by kernel_rfl) (by kernel_rfl) (by kernel_rfl) (fun _ _ _ h => h) (Or.inl ⟨by rfl, ?_⟩) hH ?_
            rotate_left
            · (intro w'' hSw; (try dsimp only at hSw); go_simp; try with_reducible rfl)
            change wpAnyU _ _ _ _ _ _ _ _ (Act.put _ (some 47) _) _
            try simp only [Act.put, List.setIfInBounds_toArray, List.set_cons_zero, List.set_cons_succ]
            refine wpAnyU_take (i := 11) (v := ?_) rfl (by kernel_rfl) (by kernel_rfl) (by kernel_rfl) (by kernel_rfl) (fun _ _ _ h => h) (Or.inl ⟨by rfl, ?_⟩) hH ?_
            rotate_left
            · (intro w'' hSw; (try dsimp only at hSw); go_simp; try with_reducible rfl)
            change wpAnyU _ _ _ _ _ _ _ _ (Act.put _ (some 48) _) _
            try simp only [Act.put, List.setIfInBounds_toArray, List.set_cons_zero, List.set_cons_succ]
            refine wpAnyU_take (i := 12) (v := ?_) rfl (by kernel_rfl) (by kernel_rfl) (by kernel_rfl) (by kernel_rfl) (fun _ _ _ h => h) (Or.inl ⟨by rfl, ?_⟩) hH ?_
            rotate_left
            · (intro w'' hSw; have q := cell_kept hSw.out C1.out.2.2.1 id; go_simp; try with_reducible rfl)
            change wpAnyU _ _ _ _ _ _ _ _ (Act.put _ (some 49) _) _
            try simp only [Act.put, List.setIfInBounds_toArray, List.set_cons_zero, List.set_cons_succ]
            refine wpAnyU_take (i := 13) (v := ?_) rfl (by kernel_rfl) (by kernel_rfl) (by kernel_rfl) (by kernel_rfl) (fun _ _ _ h => h) (Or.inl ⟨by rfl, ?_⟩) hH ?_
            rotate_left
            · (intro w'' hSw; (try dsimp only at hSw); go_simp; try with_reducible rfl)
            change wpAnyU _ _ _ _ _ _ _ _ (Act.put _ (some 50) _) _
            try simp only [Act.put, List.setIfInBounds_toArray, List.set_cons_zero, List.set_cons_succ]
            refine wpAnyU_take (i := 14) (v := undef) rfl (by kernel_rfl) (by kernel_rfl) (by kernel_rfl) (by kernel_rfl) (fun _ _ _ h => h) (Or.inr ⟨by rfl, rfl⟩) hH ?_
            change wpAnyU _ _ _ _ _ _ _ _ (Act.put _ (some 51) _) _
            try simp only [Act.put, List.setIfInBounds_toArray, List.set_cons_zero, List.set_cons_succ]
            refine wpAnyU_take (i := 15) (v := undef) rfl (by kernel_rfl) (by kernel_rfl) (by kernel_rfl) (by kernel_rfl) (fun _ _ _ h => h) (Or.inr ⟨by rfl, rfl⟩) hH ?_
            change wpAnyU _ _ _ _ _ _ _ _ (Act.put _ (some 52) _) _
            try simp only [Act.put, List.setIfInBounds_toArray, List.set_cons_zero, List.set_cons_succ]
            refine wpAnyU_take (i := 16) (v := undef) rfl (by kernel_rfl) (by kernel_rfl) (by kernel_rfl) (by kernel_rfl) (fun _ _ _ h => h) (Or.inr ⟨by rfl, rfl⟩) hH ?_
            change wpAnyU _ _ _ _ _ _ _ _ (Act.put _ (some 53) _) _
            try simp only [Act.put, List.setIfInBounds_toArray, List.set_cons_zero, List.set_cons_succ]
            refine wpAnyU_take (i := 17) (v := undef) rfl (by kernel_rfl) (by kernel_rfl) (by kernel_rfl) (by kernel_rfl) (fun _ _ _ h => h) (Or.inr ⟨by rfl, rfl⟩) hH ?_
            change wpAnyU _ _ _ _ _ _ _ _ (Act.put _ (some 54) _) _
            try simp only [Act.put, List.setIfInBounds_toArray, List.set_cons_zero, List.set_cons_succ]
            refine wpAnyU_take (i := 18) (v := undef) rfl (by kernel_rfl) (by kernel_rfl) (by kernel_rfl) (by kernel_rfl) (fun _ _ _ h => h) (Or.inr ⟨by rfl, rfl⟩) hH ?_
            change wpAnyU _ _ _ _ _ _ _ _ (Act.put _ (some 55) _) _
            try simp only [Act.put, List.setIfInBounds_toArray, List.set_cons_zero, List.set_cons_succ]
            refine wpAnyU_take (i := 19) (v := undef) rfl (by kernel_rfl) (by kernel_rfl) (by kernel_rfl) (by kernel_rfl) (fun _ _ _ h => h) (Or.inr ⟨by rfl, rfl⟩) hH ?_
            change wpAnyU _ _ _ _ _ _ _ _ (Act.put _ (some 56) _) _
            try simp only [Act.put, List.setIfInBounds_toArray, List.set_cons_zero, List.set_cons_succ]
            refine wpAnyU_take (i := 20) (v := undef) rfl (by kernel_rfl) (by kernel_rfl) (by kernel_rfl) (by kernel_rfl) (fun _ _ _ h => h) (Or.inr ⟨by rfl, rfl⟩) hH ?_
            change wpAnyU _ _ _ _ _ _ _ _ (Act.put _ (some 57) _) _
            try simp only [Act.put, List.setIfInBounds_toArray, List.set_cons_zero, List.set_cons_succ]
            refine wpAnyU_take (i := 21) (v := undef) rfl (by kernel_rfl) (by kernel_rfl) (by kernel_rfl) (by kernel_rfl) (fun _ _ _ h => h) (Or.inr ⟨by rfl, rfl⟩) hH ?_
            change wpAnyU _ _ _ _ _ _ _ _ (Act.put _ (some 58) _) _
            try simp only [Act.put, List.setIfInBounds_toArray, List.set_cons_zero, List.set_cons_succ]
            refine wpAnyU_take (i := 22) (v := undef) rfl (by kernel_rfl) (by kernel_rfl) (by kernel_rfl) (by kernel_rfl) (fun _ _ _ h => h) (Or.inr ⟨by rfl, rfl⟩) hH ?_
            change wpAnyU _ _ _ _ _ _ _ _ (Act.put _ (some 59) _) _
            try simp only [Act.put, List.setIfInBounds_toArray, List.set_cons_zero, List.set_cons_succ]
            refine wpAnyU_take (i := 23) (v := undef) rfl (by kernel_rfl) (by kernel_rfl) (by kernel_rfl) (by kernel_rfl) (fun _ _ _ h => h) (Or.inr ⟨by rfl, rfl⟩) hH ?_
            change wpAnyU _ _ _ _ _ _ _ _ (Act.put _ (some 60) _) _
            try simp only [Act.put, List.setIfInBounds_toArray, List.set_cons_zero, List.set_cons_succ]
            refine wpAnyU_take (i := 24) (v := undef) rfl (by kernel_rfl) (by kernel_rfl) (by kernel_rfl) (by kernel_rfl) (fun _ _ _ h => h) (Or.inr ⟨by rfl, rfl⟩) hH ?_
            change wpAnyU _ _ _ _ _ _ _ _ (Act.put _ (some 61) _) _
            try simp only [Act.put, List.setIfInBounds_toArray, List.set_cons_zero, List.set_cons_succ]
            refine wpAnyU_take (i := 25) (v := undef) rfl (by kernel_rfl) (by kernel_rfl) (by kernel_rfl) (by kernel_rfl) (fun _ _ _ h => h) (Or.inr ⟨by rfl, rfl⟩) hH ?_
            change wpAnyU _ _ _ _ _ _ _ _ (Act.put _ (some 62) _) _
            try simp only [Act.put, List.setIfInBounds_toArray, List.set_cons_zero, List.set_cons_succ]
            refine wpAnyU_take (i := 26) (v := undef) rfl (by kernel_rfl) (by kernel_rfl) (by kernel_rfl) (by kernel_rfl) (fun _ _ _ h => h) (Or.inr ⟨by rfl, rfl⟩) hH ?_
            change wpAnyU _ _ _ _ _ _ _ _ (Act.put _ (some 63) _) _
            try simp only [Act.put, List.setIfInBounds_toArray, List.set_cons_zero, List.set_cons_succ]
            refine wpAnyU_take (i := 27) (v := undef) rfl (by kernel_rfl) (by kernel_rfl) (by kernel_rfl) (by kernel_rfl) (fun _ _ _ h => h) (Or.inr ⟨by rfl, rfl⟩) hH ?_
            change wpAnyU _ _ _ _ _ _ _ _ (Act.put _ (some 64) _) _
            try simp only [Act.put, List.setIfInBounds_toArray, List.set_cons_zero, List.set_cons_succ]
            refine wpAnyU_take (i := 28) (v := undef) rfl (by kernel_rfl) (by kernel_rfl) (by kernel_rfl) (by kernel_rfl) (fun _ _ _ h => h) (Or.inr ⟨by rfl, rfl⟩) hH ?_
            change wpAnyU _ _ _ _ _ _ _ _ (Act.put _ (some 65) _) _
            try simp only [Act.put, List.setIfInBounds_toArray, List.set_cons_zero, List.set_cons_succ]
            refine wpAnyU_take (i := 29) (v := undef) rfl (by kernel_rfl) (by kernel_rfl) (by kernel_rfl) (by kernel_rfl) (fun _ _ _ h => h) (Or.inr ⟨by rfl, rfl⟩) hH ?_
            change wpAnyU _ _ _ _ _ _ _ _ (Act.put _ (some 66) _) _
            try simp only [Act.put, List.setIfInBounds_toArray, List.set_cons_zero, List.set_cons_succ]
            refine wpAnyU_take (i := 30) (v := undef) rfl (by kernel_rfl) (by kernel_rfl) (by kernel_rfl) (by kernel_rfl) (fun _ _ _ h => h) (Or.inr ⟨by rfl, rfl⟩) hH ?_
            change wpAnyU _ _ _ _ _ _ _ _ (Act.put _ (some 67) _) _
            try simp only [Act.put, List.setIfInBounds_toArray, List.set_cons_zero, List.set_cons_succ]
            refine wpAnyU_take (i := 31) (v := undef) rfl (by kernel_rfl) (by kernel_rfl) (by kernel_rfl) (by kernel_rfl) (fun _ _ _ h => h) (Or.inr ⟨by rfl, rfl⟩) hH ?_
            change wpAnyU _ _ _ _ _ _ _ _ (Act.put _ (some 68) _) _
            try simp only [Act.put, List.setIfInBounds_toArray, List.set_cons_zero, List.set_cons_succ]
            refine wpAnyU_take (i := 32) (v := undef) rfl (by kernel_rfl) (by kernel_rfl) (by kernel_rfl) (by kernel_rfl) (fun _ _ _ h => h) (Or.inr ⟨by rfl, rfl⟩) hH ?_
            change wpAnyU _ _ _ _ _ _ _ _ (Act.put _ (some 69) _) _
            try simp only [Act.put, List.setIfInBounds_toArray, List.set_cons_zero, List.set_cons_succ]
            refine wpAnyU_take (i := 33) (v := undef) rfl (by kernel_rfl) (by kernel_rfl) (by kernel_rfl) (by kernel_rfl) (fun _ _ _ h => h) (Or.inr ⟨by rfl, rfl⟩) hH ?_
            change wpAnyU _ _ _ _ _ _ _ _ (Act.put _ (some 70) _) _
            try simp only [Act.put, List.setIfInBounds_toArray, List.set_cons_zero, List.set_cons_succ]
            refine wpAnyU_take (i := 34) (v := ?_) rfl (by kernel_rfl) (by kernel_rfl) (by kernel_rfl) (by kernel_rfl) (fun _ _ _ h => h) (Or.inl ⟨by rfl, ?_⟩) hH ?_
            rotate_left
            · (intro w'' hSw; (try dsimp only at hSw); go_simp; try with_reducible rfl)
            change wpAnyU _ _ _ _ _ _ _ _ (Act.put _ (some 71) _) _
            try simp only [Act.put, List.setIfInBounds_toArray, List.set_cons_zero, List.set_cons_succ]
            refine wpAnyU_pure (i := 35) (v := ?_) rfl (by kernel_rfl) (by kernel_rfl) (by kernel_rfl) (by rfl) (fun _ _ _ h => h) (Or.inl ⟨by rfl, ?_⟩) ?_
            rotate_left
            · (intro w'' _; go_simp; try with_reducible rfl)
            change wpAnyU _ _ _ _ _ _ _ _ (Act.put _ (some 72) _) _
            try simp only [Act.put, List.setIfInBounds_toArray, List.set_cons_zero, List.set_cons_succ]
            refine wpAnyU_pure (i := 36) (v := ?_) rfl (by kernel_rfl) (by kernel_rfl) (by kernel_rfl) (by rfl) (fun _ _ _ h => h) (Or.inl ⟨by rfl, ?_⟩) ?_
            rotate_left
            · (intro w'' _; go_simp; try with_reducible rfl)
            change wpAnyU _ _ _ _ _ _ _ _ (Act.put _ (some 73) _) _
            try simp only [Act.put, List.setIfInBounds_toArray, List.set_cons_zero, List.set_cons_succ]
            refine wpAnyU_ready (rs := [37]) (by kernel_rfl) (by simp) ?_
            refine AllReadyU.last rfl (by rfl) (fun Kn hKn => ?_) AllReadyU.nil
            generalize w1.drew = wz at hH ⊢
            have q11 := cell_kept hH.out C1.out.2.2.1 id
            have f11 := (keep_frozen hH.out G1.out id).trans C1.out.2.2.2.2
            go_simp
            refine hKn.out _ _ ?_
            clear hKn Kn
            try simp only [Act.put, List.setIfInBounds_toArray, List.set_cons_zero, List.set_cons_succ]
            refine wpAnyU_done (by kernel_rfl) ?_ _
            obtain ⟨u', hu'⟩ := HNX.out _ hH.out true HGV.out
            have HU := Lib.hid hu'
            clear hu'
            go_wp2_with fail
            exact ⟨⟨k + 1, by omega, by go_num, u', HU⟩, by simp [RowKit.intOf]; omega⟩
          | false =>
            cases dd with
            | false =>
              have hgv : false = (e.passed c).gone := by have := HGA.out; simpa using this
              have HGV := Lib.hid hgv
              clear hgv
              refine wp_region_drewU (S := (fun w' => Hid (Keep (fun _ => False) w1 w'))) (D := [35, 36, 37]) (by kernel_rfl) (by exact Lib.hid (keep_draw _ w1)) (fun hH => ?_)
              refine wpAnyU_take (i := 0) (v := ?_) rfl (by kernel_rfl) (by kernel_rfl) (by kernel_rfl) (by kernel_rfl) (fun _ _ _ h => h) (Or.inl ⟨by rfl, ?_⟩) hH ?_
              rotate_left
              · (intro w'' hSw; (try dsimp only at hSw); go_simp; try with_reducible rfl)
              change wpAnyU _ _ _ _ _ _ _ _ (Act.put _ (some 37) _) _
              try simp only [Act.put, List.setIfInBounds_toArray, List.set_cons_zero, List.set_cons_succ]
              refine wpAnyU_take (i := 1) (v := ?_) rfl (by kernel_rfl) (by kernel_rfl) (by kernel_rfl) (by kernel_rfl) (fun _ _ _ h => h) (Or.inl ⟨by rfl, ?_⟩) hH ?_
              rotate_left
              · (intro w'' hSw; (try dsimp only at hSw); go_simp; try with_reducible rfl)
              change wpAnyU _ _ _ _ _ _ _ _ (Act.put _ (some 38) _) _
              try simp only [Act.put, List.setIfInBounds_toArray, List.set_cons_zero, List.set_cons_succ]
              refine wpAnyU_take (i := 2) (v := ?_) rfl (by kernel_rfl) (by kernel_rfl) (by kernel_rfl) (by kernel_rfl) (fun _ _ _ h => h) (Or.inl ⟨by rfl, ?_⟩) hH ?_
              rotate_left
              · (intro w'' hSw; (try dsimp only at hSw); go_simp; try with_reducible rfl)
              change wpAnyU _ _ _ _ _ _ _ _ (Act.put _ (some 39) _) _
              try simp only [Act.put, List.setIfInBounds_toArray, List.set_cons_zero, List.set_cons_succ]
              refine wpAnyU_take (i := 3) (v := ?_) rfl (by kernel_rfl) (by kernel_rfl) (by kernel_rfl) (by kernel_rfl) (fun _ _ _ h => h) (Or.inl ⟨by rfl, ?_⟩) hH ?_
              rotate_left
              · (intro w'' hSw; have q := cell_kept hSw.out C1.out.1 id; go_simp; try with_reducible rfl)
              change wpAnyU _ _ _ _ _ _ _ _ (Act.put _ (some 40) _) _
              try simp only [Act.put, List.setIfInBounds_toArray, List.set_cons_zero, List.set_cons_succ]
              refine wpAnyU_take (i := 4) (v := ?_) rfl (by kernel_rfl) (by kernel_rfl) (by kernel_rfl) (by kernel_rfl) (fun _ _ _ h => h) (Or.inl ⟨by rfl, ?_⟩) hH ?_
              rotate_left
              · (intro w'' hSw; (try dsimp only at hSw); go_simp; try with_reducible rfl)
              change wpAnyU _ _ _ _ _ _ _ _ (Act.put _ (some 41) _) _
              try simp only [Act.put, List.setIfInBounds_toArray, List.set_cons_zero, List.set_cons_succ]
              refine wpAnyU_take (i := 5) (v := ?_) rfl (by kernel_rfl) (by kernel_rfl) (by kernel_rfl) (by kernel_rfl) (fun _ _ _ h => h) (Or.inl ⟨by rfl, ?_⟩) hH ?_
              rotate_left
              · (intro w'' hSw; (try dsimp only at hSw); go_simp; try with_reducible rfl)
              change wpAnyU _ _ _ _ _ _ _ _ (Act.put _ (some 42) _) _
              try simp only [Act.put, List.setIfInBounds_toArray, List.set_cons_zero, List.set_cons_succ]
              refine wpAnyU_take (i := 6) (v := ?_) rfl (by kernel_rfl) (by kernel_rfl) (by kernel_rfl) (by kernel_rfl) (fun _ _ _ h => h) (Or.inl ⟨by rfl, ?_⟩) hH ?_
              rotate_left
              · (intro w'' hSw; (try dsimp only at hSw); go_simp; try with_reducible rfl)
              change wpAnyU _ _ _ _ _ _ _ _ (Act.put _ (some 43) _) _
              try simp only [Act.put, List.setIfInBounds_toArray, List.set_cons_zero, List.set_cons_succ]
              refine wpAnyU_take (i := 7) (v := ?_) rfl (by kernel_rfl) (by kernel_rfl) (by kernel_rfl) (by kernel_rfl) (fun _ _ _ h => h) (Or.inl ⟨by rfl, ?_⟩) hH ?_
              rotate_left
              · (intro w'' hSw; (try dsimp only at hSw); go_simp; try with_reducible rfl)
              change wpAnyU _ _ _ _ _ _ _ _ (Act.put _ (some 44) _) _
              try simp only [Act.put, List.setIfInBounds_toArray, List.set_cons_zero, List.set_cons_succ]
              refine wpAnyU_take (i := 8) (v := ?_) rfl (by kernel_rfl) (by kernel_rfl) (by kernel_rfl) (by kernel_rfl) (fun _ _ _ h => h) (Or.inl ⟨by rfl, ?_⟩) hH ?_
              rotate_left
              · (intro w'' hSw; have q := cell_kept hSw.out C1.out.1 id; go_simp; try with_reducible rfl)
              change wpAnyU _ _ _ _ _ _ _ _ (Act.put _ (some 45) _) _
              try simp only [Act.put, List.setIfInBounds_toArray, List.set_cons_zero, List.set_cons_succ]
              refine wpAnyU_take (i := 9) (v := ?_) rfl (by kernel_rfl) (by kernel_rfl) (by kernel_rfl) (by kernel_rfl) (fun _ _ _ h => h) (Or.inl ⟨by rfl, ?_⟩) hH ?_
              rotate_left
              · (intro w'' hSw; (try dsimp only at hSw); go_simp; try with_reducible rfl)
              change wpAnyU _ _ _ _ _ _ _ _ (Act.put _ (some 46) _) _
              try simp only [Act.put, List.setIfInBounds_toArray, List.set_cons_zero, List.set_cons_succ]
              refine wpAnyU_take (i := 10) (v := ?_) rfl (by kernel_rfl) (by kernel_rfl) (by kernel_rfl) (by kernel_rfl) (fun _ _ _ h => h) (Or.inl ⟨by rfl, ?_⟩) hH ?_
              rotate_left
              · (intro w'' hSw; (try dsimp only at hSw); go_simp; try with_reducible rfl)
              change wpAnyU _ _ _ _ _ _ _ _ (Act.put _ (some 47) _) _
              try simp only [Act.put, List.setIfInBounds_toArray, List.set_cons_zero, List.set_cons_succ]
              refine wpAnyU_take (i := 11) (v := ?_) rfl (by kernel_rfl) (by kernel_rfl) (by kernel_rfl) (by kernel_rfl) (fun _ _ _ h => h) (Or.inl ⟨by rfl, ?_⟩) hH ?_
              rotate_left
              · (intro w'' hSw; (try dsimp only at hSw); go_simp; try with_reducible rfl)
              change wpAnyU _ _ _ _ _ _ _ _ (Act.put _ (some 48) _) _
              try simp only [Act.put, List.setIfInBounds_toArray, List.set_cons_zero, List.set_cons_succ]
              refine wpAnyU_take (i := 12) (v := ?_) rfl (by kernel_rfl) (by kernel_rfl) (by kernel_rfl) (by kernel_rfl) (fun _ _ _ h => h) (Or.inl ⟨by rfl, ?_⟩) hH ?_
              rotate_left
              · (intro w'' hSw; have q := cell_kept hSw.out C1.out.2.2.1 id; go_simp; try with_reducible rfl)
              change wpAnyU _ _ _ _ _ _ _ _ (Act.put _ (some 49) _) _
              try simp only [Act.put, List.setIfInBounds_toArray, List.set_cons_zero, List.set_cons_succ]
              refine wpAnyU_take (i := 13) (v := ?_) rfl (by kernel_rfl) (by kernel_rfl) (by kernel_rfl) (by kernel_rfl) (fun _ _ _ h => h) (Or.inl ⟨by rfl, ?_⟩) hH ?_
              rotate_left
              · (intro w'' hSw; (try dsimp only at hSw); go_simp; try with_reducible rfl)
              change wpAnyU _ _ _ _ _ _ _ _ (Act.put _ (some 50) _) _
              try simp only [Act.put, List.setIfInBounds_toArray, List.set_cons_zero, List.set_cons_succ]
              refine wpAnyU_take (i := 14) (v := ?_) rfl (by kernel_rfl) (by kernel_rfl) (by kernel_rfl) (by kernel_rfl) (fun _ _ _ h => h) (Or.inl ⟨by rfl, ?_⟩) hH ?_
              rotate_left
              · (intro w'' hSw; (try dsimp only at hSw); go_simp; try with_reducible rfl)
              change wpAnyU _ _ _ _ _ _ _ _ (Act.put _ (some 51) _) _
              try simp only [Act.put, List.setIfInBounds_toArray, List.set_cons_zero, List.set_cons_succ]
              refine wpAnyU_take (i := 15) (v := ?_) rfl (by kernel_rfl) (by kernel_rfl) (by kernel_rfl) (by kernel_rfl) (fun _ _ _ h => h) (Or.inl ⟨by rfl, ?_⟩) hH ?_
              rotate_left
              · (intro w'' hSw; (try dsimp only at hSw); go_simp; try with_reducible rfl)
              change wpAnyU _ _ _ _ _ _ _ _ (Act.put _ (some 52) _) _
              try simp only [Act.put, List.setIfInBounds_toArray, List.set_cons_zero, List.set_cons_succ]
              refine wpAnyU_take (i := 16) (v := ?_) rfl (by kernel_rfl) (by kernel_rfl) (by kernel_rfl) (by kernel_rfl) (fun _ _ _ h => h) (Or.inl ⟨by rfl, ?_⟩) hH ?_
              rotate_left
              · (intro w'' hSw; (try dsimp only at hSw); go_simp; try with_reducible rfl)
              change wpAnyU _ _ _ _ _ _ _ _ (Act.put _ (some 53) _) _
              try simp only [Act.put, List.setIfInBounds_toArray, List.set_cons_zero, List.set_cons_succ]
              refine wpAnyU_take (i := 17) (v := ?_) rfl (by kernel_rfl) (by kernel_rfl) (by kernel_rfl) (by kernel_rfl) (fun _ _ _ h => h) (Or.inl ⟨by rfl, ?_⟩) hH ?_
              rotate_left
              · (intro w'' hSw; have q := cell_kept hSw.out C1.out.1 id; go_simp; try with_reducible rfl)
              change wpAnyU _ _ _ _ _ _ _ _ (Act.put _ (some 54) _) _
              try simp only [Act.put, List.setIfInBounds_toArray, List.set_cons_zero, List.set_cons_succ]
              refine wpAnyU_take (i := 18) (v := ?_) rfl (by kernel_rfl) (by kernel_rfl) (by kernel_rfl) (by kernel_rfl) (fun _ _ _ h => h) (Or.inl ⟨by rfl, ?_⟩) hH ?_
              rotate_left
              · (intro w'' hSw; (try dsimp only at hSw); go_simp; try with_reducible rfl)
              change wpAnyU _ _ _ _ _ _ _ _ (Act.put _ (some 55) _) _
              try simp only [Act.put, List.setIfInBounds_toArray, List.set_cons_zero, List.set_cons_succ]
              refine wpAnyU_take (i := 19) (v := ?_) rfl (by kernel_rfl) (by kernel_rfl) (by kernel_rfl) (by kernel_rfl) (fun _ _ _ h => h) (Or.inl ⟨by rfl, ?_⟩) hH ?_
              rotate_left
              · (intro w'' hSw; (try dsimp only at hSw); go_simp; try with_reducible rfl)
              change wpAnyU _ _ _ _ _ _ _ _ (Act.put _ (some 56) _) _
              try simp only [Act.put, List.setIfInBounds_toArray, List.set_cons_zero, List.set_cons_succ]
              refine wpAnyU_take (i := 20) (v := ?_) rfl (by kernel_rfl) (by kernel_rfl) (by kernel_rfl) (by kernel_rfl) (fun _ _ _ h => h) (Or.inl ⟨by rfl, ?_⟩) hH ?_
              rotate_left
              · (intro w'' hSw; (try dsimp only at hSw); go_simp; try with_reducible rfl)
              change wpAnyU _ _ _ _ _ _ _ _ (Act.put _ (some 57) _) _
              try simp only [Act.put, List.setIfInBounds_toArray, List.set_cons_zero, List.set_cons_succ]
              refine wpAnyU_take (i := 21) (v := ?_) rfl (by kernel_rfl) (by kernel_rfl) (by kernel_rfl) (by kernel_rfl) (fun _ _ _ h => h) (Or.inl ⟨by rfl, ?_⟩) hH ?_
              rotate_left
              · (intro w'' hSw; have q := cell_kept hSw.out C1.out.2.1 id; go_simp; try with_reducible rfl)
              change wpAnyU _ _ _ _ _ _ _ _ (Act.put _ (some 58) _) _
              try simp only [Act.put, List.setIfInBounds_toArray, List.set_cons_zero, List.set_cons_succ]
              refine wpAnyU_take (i := 22) (v := ?_) rfl (by kernel_rfl) (by kernel_rfl) (by kernel_rfl) (by kernel_rfl) (fun _ _ _ h => h) (Or.inl ⟨by rfl, ?_⟩) hH ?_
              rotate_left
              · (intro w'' hSw; (try dsimp only at hSw); go_simp; try with_reducible rfl)
              change wpAnyU _ _ _ _ _ _ _ _ (Act.put _ (some 59) _) _
              try simp only [Act.put, List.setIfInBounds_toArray, List.set_cons_zero, List.set_cons_succ]
              refine wpAnyU_take (i := 23) (v := undef) rfl (by kernel_rfl) (by kernel_rfl) (by kernel_rfl) (by kernel_rfl) (fun _ _ _ h => h) (Or.inr ⟨by rfl, rfl⟩) hH ?_
              change wpAnyU _ _ _ _ _ _ _ _ (Act.put _ (some 60) _) _
              try simp only [Act.put, List.setIfInBounds_toArray, List.set_cons_zero, List.set_cons_succ]
              refine wpAnyU_take (i := 24) (v := undef) rfl (by kernel_rfl) (by kernel_rfl) (by kernel_rfl) (by kernel_rfl) (fun _ _ _ h => h) (Or.inr ⟨by rfl, rfl⟩) hH ?_
              change wpAnyU _ _ _ _ _ _ _ _ (Act.put _ (some 61) _) _
              try simp only [Act.put, List.setIfInBounds_toArray, List.set_cons_zero, List.set_cons_succ]
              refine wpAnyU_take (i := 25) (v := undef) rfl (by kernel_rfl) (by kernel_rfl) (by kernel_rfl) (by kernel_rfl) (fun _ _ _ h => h) (Or.inr ⟨by rfl, rfl⟩) hH ?_
              change wpAnyU _ _ _ _ _ _ _ _ (Act.put _ (some 62) _) _
              try simp only [Act.put, List.setIfInBounds_toArray, List.set_cons_zero, List.set_cons_succ]
              refine wpAnyU_take (i := 26) (v := undef) rfl (by kernel_rfl) (by kernel_rfl) (by kernel_rfl) (by kernel_rfl) (fun _ _ _ h => h) (Or.inr ⟨by rfl, rfl⟩) hH ?_
              change wpAnyU _ _ _ _ _ _ _ _ (Act.put _ (some 63) _) _
              try simp only [Act.put, List.setIfInBounds_toArray, List.set_cons_zero, List.set_cons_succ]
              refine wpAnyU_take (i := 27) (v := undef) rfl (by kernel_rfl) (by kernel_rfl) (by kernel_rfl) (by kernel_rfl) (fun _ _ _ h => h) (Or.inr ⟨by rfl, rfl⟩) hH ?_
              change wpAnyU _ _ _ _ _ _ _ _ (Act.put _ (some 64) _) _
              try simp only [Act.put, List.setIfInBounds_toArray, List.set_cons_zero, List.set_cons_succ]
              refine wpAnyU_take (i := 28) (v := undef) rfl (by kernel_rfl) (by kernel_rfl) (by kernel_rfl) (by kernel_rfl) (fun _ _ _ h => h) (Or.inr ⟨by rfl, rfl⟩) hH ?_
              change wpAnyU _ _ _ _ _ _ _ _ (Act.put _ (some 65) _) _
              try simp only [Act.put, List.setIfInBounds_toArray, List.set_cons_zero, List.set_cons_succ]
              refine wpAnyU_take (i := 29) (v := undef) rfl (by kernel_rfl) (by kernel_rfl) (by kernel_rfl) (by kernel_rfl) (fun _ _ _ h => h) (Or.inr ⟨by rfl, rfl⟩) hH ?_
              change wpAnyU _ _ _ _ _ _ _ _ (Act.put _ (some 66) _) _
              try simp only [Act.put, List.setIfInBounds_toArray, List.set_cons_zero, List.set_cons_succ]
              refine wpAnyU_take (i := 30) (v := undef) rfl (by kernel_rfl) (by kernel_rfl) (by kernel_rfl) (by kernel_rfl) (fun _ _ _ h => h) (Or.inr ⟨by rfl, rfl⟩) hH ?_
              change wpAnyU _ _ _ _ _ _ _ _ (Act.put _ (some 67) _) _
              try simp only [Act.put, List.setIfInBounds_toArray, List.set_cons_zero, List.set_cons_succ]
              refine wpAnyU_take (i := 31) (v := undef) rfl (by kernel_rfl) (by kernel_rfl) (by kernel_rfl) (by kernel_rfl) (fun _ _ _ h => h) (Or.inr ⟨by rfl, rfl⟩) hH ?_
              change wpAnyU _ _ _ _ _ _ _ _ (Act.put _ (some 68) _) _
              try simp only [Act.put, List.setIfInBounds_toArray, List.set_cons_zero, List.set_cons_succ]
              refine wpAnyU_take (i := 32) (v := undef) rfl (by kernel_rfl) (by kernel_rfl) (by kernel_rfl) (by kernel_rfl) (fun _ _ _ h => h) (Or.inr ⟨by rfl, rfl⟩) hH ?_
              change wpAnyU _ _ _ _ _ _ _ _ (Act.put _ (some 69) _) _
              try simp only [Act.put, List.setIfInBounds_toArray, List.set_cons_zero, List.set_cons_succ]
              refine wpAnyU_take (i := 33) (v := ?_) rfl (by kernel_rfl) (by kernel_rfl) (by kernel_rfl) (by kernel_rfl) (fun _ _ _ h => h) (Or.inl ⟨by rfl, ?_⟩) hH ?_
              rotate_left
              · (intro w'' hSw; (try dsimp only at hSw); go_simp; try with_reducible rfl)
              change wpAnyU _ _ _ _ _ _ _ _ (Act.put _ (some 70) _) _
              try simp only [Act.put, List.setIfInBounds_toArray, List.set_cons_zero, List.set_cons_succ]
              refine wpAnyU_take (i := 34) (v := ?_) rfl (by kernel_rfl) (by kernel_rfl) (by kernel_rfl) (by kernel_rfl) (fun _ _ _ h => h) (Or.inl ⟨by rfl, ?_⟩) hH ?_
              rotate_left
              · (intro w'' hSw; (try dsimp only at hSw); go_simp; try with_reducible rfl)
              change wpAnyU _ _ _ _ _ _ _ _ (Act.put _ (some 71) _) _
              try simp only [Act.put, List.setIfInBounds_toArray, List.set_cons_zero, List.set_cons_succ]
              refine wpAnyU_pure (i := 35) (v := ?_) rfl (by kernel_rfl) (by kernel_rfl) (by kernel_rfl) (by rfl) (fun _ _ _ h => h) (Or.inl ⟨by rfl, ?_⟩) ?_
              rotate_left
              · (intro w'' _; go_simp; try with_reducible rfl)
              change wpAnyU _ _ _ _ _ _ _ _ (Act.put _ (some 72) _) _
              try simp only [Act.put, List.setIfInBounds_toArray, List.set_cons_zero, List.set_cons_succ]
              refine wpAnyU_pure (i := 36) (v := ?_) rfl (by kernel_rfl) (by kernel_rfl) (by kernel_rfl) (by rfl) (fun _ _ _ h => h) (Or.inl ⟨by rfl, ?_⟩) ?_
              rotate_left
              · (intro w'' _; go_simp; try with_reducible rfl)
              change wpAnyU _ _ _ _ _ _ _ _ (Act.put _ (some 73) _) _
              try simp only [Act.put, List.setIfInBounds_toArray, List.set_cons_zero, List.set_cons_succ]
              refine wpAnyU_ready (rs := [37]) (by kernel_rfl) (by simp) ?_
              refine AllReadyU.last rfl (by rfl) (fun Kn hKn => ?_) AllReadyU.nil
              generalize w1.drew = wz at hH ⊢
              have q11 := cell_kept hH.out C1.out.2.2.1 id
              have f11 := (keep_frozen hH.out G1.out id).trans C1.out.2.2.2.2
              go_simp
              refine hKn.out _ _ ?_
              clear hKn Kn
              try simp only [Act.put, List.setIfInBounds_toArray, List.set_cons_zero, List.set_cons_succ]
              refine wpAnyU_done (by kernel_rfl) ?_ _
              obtain ⟨u', hu'⟩ := HNX.out _ hH.out false HGV.out
              have HU := Lib.hid hu'
              clear hu'
              go_wp2_with fail
              exact ⟨⟨k + 1, by omega, by go_num, u', HU⟩, by simp [RowKit.intOf]; omega⟩
            | true =>
              obtain ⟨sv, hsv⟩ : ∃ sv, (e.passed c).owed.any (·) = sv := ⟨_, rfl⟩
              have hgv : (!sv) = (e.passed c).gone := by have := HGA.out; rw [hsv] at this; simpa using this
              have HGV := Lib.hid hgv
              have HSV := Lib.hid hsv
              clear hgv hsv
              refine wp_region_drewU (S := (fun w' => Hid (Keep (fun _ => False) w1 w'))) (D := [35, 36, 37]) (by kernel_rfl) (by exact Lib.hid (keep_draw _ w1)) (fun hH => ?_)
              refine wpAnyU_take (i := 0) (v := ?_) rfl (by kernel_rfl) (by kernel_rfl) (by kernel_rfl) (by kernel_rfl) (fun _ _ _ h => h) (Or.inl ⟨by rfl, ?_⟩) hH ?_
              rotate_left
              · (intro w'' hSw; (try dsimp only at hSw); go_simp; try with_reducible rfl)
              change wpAnyU _ _ _ _ _ _ _ _ (Act.put _ (some 37) _) _
              try simp only [Act.put, List.setIfInBounds_toArray, List.set_cons_zero, List.set_cons_succ]
              refine wpAnyU_take (i := 1) (v := ?_) rfl (by kernel_rfl) (by kernel_rfl) (by kernel_rfl) (by kernel_rfl) (fun _ _ _ h => h) (Or.inl ⟨by rfl, ?_⟩) hH ?_
              rotate_left
              · (intro w'' hSw; (try dsimp only at hSw); go_simp; try with_reducible rfl)
              change wpAnyU _ _ _ _ _ _ _ _ (Act.put _ (some 38) _) _
              try simp only [Act.put, List.setIfInBounds_toArray, List.set_cons_zero, List.set_cons_succ]
              refine wpAnyU_take (i := 2) (v := ?_) rfl (by kernel_rfl) (by kernel_rfl) (by kernel_rfl) (by kernel_rfl) (fun _ _ _ h => h) (Or.inl ⟨by rfl, ?_⟩) hH ?_
              rotate_left
              · (intro w'' hSw; (try dsimp only at hSw); go_simp; try with_reducible rfl)
              change wpAnyU _ _ _ _ _ _ _ _ (Act.put _ (some 39) _) _
              try simp only [Act.put, List.setIfInBounds_toArray, List.set_cons_zero, List.set_cons_succ]
              refine wpAnyU_take (i := 3) (v := ?_) rfl (by kernel_rfl) (by kernel_rfl) (by kernel_rfl) (by kernel_rfl) (fun _ _ _ h => h) (Or.inl ⟨by rfl, ?_⟩) hH ?_
              rotate_left
              · (intro w'' hSw; have q := cell_kept hSw.out C1.out.1 id; go_simp; try with_reducible rfl)
              change wpAnyU _ _ _ _ _ _ _ _ (Act.put _ (some 40) _) _
              try simp only [Act.put, List.setIfInBounds_toArray, List.set_cons_zero, List.set_cons_succ]
              refine wpAnyU_take (i := 4) (v := ?_) rfl (by kernel_rfl) (by kernel_rfl) (by kernel_rfl) (by kernel_rfl) (fun _ _ _ h => h) (Or.inl ⟨by rfl, ?_⟩) hH ?_
              rotate_left
              · (intro w'' hSw; (try dsimp only at hSw); go_simp; try with_reducible rfl)
              change wpAnyU _ _ _ _ _ _ _ _ (Act.put _ (some 41) _) _
              try simp only [Act.put, List.setIfInBounds_toArray, List.set_cons_zero, List.set_cons_succ]
              refine wpAnyU_take (i := 5) (v := ?_) rfl (by kernel_rfl) (by kernel_rfl) (by kernel_rfl) (by kernel_rfl) (fun _ _ _ h => h) (Or.inl ⟨by rfl, ?_⟩) hH ?_
              rotate_left
              · (intro w'' hSw; (try dsimp only at hSw); go_simp; try with_reducible rfl)
              change wpAnyU _ _ _ _ _ _ _ _ (Act.put _ (some 42) _) _
              try simp only [Act.put, List.setIfInBounds_toArray, List.set_cons_zero, List.set_cons_succ]
              refine wpAnyU_take (i := 6) (v := ?_) rfl (by kernel_rfl) (by kernel_rfl) (by kernel_rfl) (by kernel_rfl) (fun _ _ _ h => h) (Or.inl ⟨by rfl, ?_⟩) hH ?_
              rotate_left
              · (intro w'' hSw; (try dsimp only at hSw); go_simp; try with_reducible rfl)
              change wpAnyU _ _ _ _ _ _ _ _ (Act.put _ (some 43) _) _
              try simp only [Act.put, List.setIfInBounds_toArray, List.set_cons_zero, List.set_cons_succ]
              refine wpAnyU_take (i := 7) (v := ?_) rfl (by kernel_rfl) (by kernel_rfl) (by kernel_rfl) (by kernel_rfl) (fun _ _ _ h => h) (Or.inl ⟨by rfl, ?_⟩) hH ?_
              rotate_left
              · (intro w'' hSw; (try dsimp only at hSw); go_simp; try with_reducible rfl)
              change wpAnyU _ _ _ _ _ _ _ _ (Act.put _ (some 44) _) _
              try simp only [Act.put, List.setIfInBounds_toArray, List.set_cons_zero, List.set_cons_succ]
              refine wpAnyU_take (i := 8) (v := ?_) rfl (by kernel_rfl) (by kernel_rfl) (by kernel_rfl) (by kernel_rfl) (fun _ _ _ h => h) (Or.inl ⟨by rfl, ?_⟩) hH ?_
              rotate_left
              · (intro w'' hSw; have q := cell_kept hSw.out C1.out.1 id; go_simp; try with_reducible rfl)
              change wpAnyU _ _ _ _ _ _ _ _ (Act.put _ (some 45) _) _
              try simp only [Act.put, List.setIfInBounds_toArray, List.set_cons_zero, List.set_cons_succ]
              refine wpAnyU_take (i := 9) (v := ?_) rfl (by kernel_rfl) (by kernel_rfl) (by kernel_rfl) (by kernel_rfl) (fun _ _ _ h => h) (Or.inl ⟨by rfl, ?_⟩) hH ?_
              rotate_left
              · (intro w'' hSw; (try dsimp only at hSw); go_simp; try with_reducible rfl)
              change wpAnyU _ _ _ _ _ _ _ _ (Act.put _ (some 46) _) _
              try simp only [Act.put, List.setIfInBounds_toArray, List.set_cons_zero, List.set_cons_succ]
              refine wpAnyU_take (i := 10) (v := ?_) rfl (by kernel_rfl) (by kernel_rfl) (by kernel_rfl) (by kernel_rfl) (fun _ _ _ h => h) (Or.inl ⟨by rfl, ?_⟩) hH ?_
              rotate_left
              · (intro w'' hSw; (try dsimp only at hSw); go_simp; try with_reducible rfl)
              change wpAnyU _ _ _ _ _ _ _ _ (Act.put _ (some 47) _) _
              try simp only [Act.put, List.setIfInBounds_toArray, List.set_cons_zero, List.set_cons_succ]
              refine wpAnyU_take (i := 11) (v := ?_) rfl (by kernel_rfl) (by kernel_rfl) (by kernel_rfl) (by kernel_rfl) (fun _ _ _ h => h) (Or.inl ⟨by rfl, ?_⟩) hH ?_
              rotate_left
              · (intro w'' hSw; (try dsimp only at hSw); go_simp; try with_reducible rfl)
              change wpAnyU _ _ _ _ _ _ _ _ (Act.put _ (some 48) _) _
              try simp only [Act.put, List.setIfInBounds_toArray, List.set_cons_zero, List.set_cons_succ]
              refine wpAnyU_take (i := 12) (v := ?_) rfl (by kernel_rfl) (by kernel_rfl) (by kernel_rfl) (by kernel_rfl) (fun _ _ _ h => h) (Or.inl ⟨by rfl, ?_⟩) hH ?_
              rotate_left
              · (intro w'' hSw; have q := cell_kept hSw.out C1.out.2.2.1 id; go_simp; try with_reducible rfl)
              change wpAnyU _ _ _ _ _ _ _ _ (Act.put _ (some 49) _) _
              try simp only [Act.put, List.setIfInBounds_toArray, List.set_cons_zero, List.set_cons_succ]
              refine wpAnyU_take (i := 13) (v := ?_) rfl (by kernel_rfl) (by kernel_rfl) (by kernel_rfl) (by kernel_rfl) (fun _ _ _ h => h) (Or.inl ⟨by rfl, ?_⟩) hH ?_
              rotate_left
              · (intro w'' hSw; (try dsimp only at hSw); go_simp; try with_reducible rfl)
              change wpAnyU _ _ _ _ _ _ _ _ (Act.put _ (some 50) _) _
              try simp only [Act.put, List.setIfInBounds_toArray, List.set_cons_zero, List.set_cons_succ]
              refine wpAnyU_take (i := 14) (v := ?_) rfl (by kernel_rfl) (by kernel_rfl) (by kernel_rfl) (by kernel_rfl) (fun _ _ _ h => h) (Or.inl ⟨by rfl, ?_⟩) hH ?_
              rotate_left
              · (intro w'' hSw; (try dsimp only at hSw); go_simp; try with_reducible rfl)
              change wpAnyU _ _ _ _ _ _ _ _ (Act.put _ (some 51) _) _
              try simp only [Act.put, List.setIfInBounds_toArray, List.set_cons_zero, List.set_cons_succ]
              refine wpAnyU_take (i := 15) (v := ?_) rfl (by kernel_rfl) (by kernel_rfl) (by kernel_rfl) (by kernel_rfl) (fun _ _ _ h => h) (Or.inl ⟨by rfl, ?_⟩) hH ?_
              rotate_left
              · (intro w'' hSw; (try dsimp only at hSw); go_simp; try with_reducible rfl)
              change wpAnyU _ _ _ _ _ _ _ _ (Act.put _ (some 52) _) _
              try simp only [Act.put, List.setIfInBounds_toArray, List.set_cons_zero, List.set_cons_succ]
              refine wpAnyU_take (i := 16) (v := ?_) rfl (by kernel_rfl) (by kernel_rfl) (by kernel_rfl) (by kernel_rfl) (fun _ _ _ h => h) (Or.inl ⟨by rfl, ?_⟩) hH ?_
              rotate_left
              · (intro w'' hSw; (try dsimp only at hSw); go_simp; try with_reducible rfl)
              change wpAnyU _ _ _ _ _ _ _ _ (Act.put _ (some 53) _) _
              try simp only [Act.put, List.setIfInBounds_toArray, List.set_cons_zero, List.set_cons_succ]
              refine wpAnyU_take (i := 17) (v := ?_) rfl (by kernel_rfl) (by kernel_rfl) (by kernel_rfl) (by kernel_rfl) (fun _ _ _ h => h) (Or.inl ⟨by rfl, ?_⟩) hH ?_
              rotate_left
              · (intro w'' hSw; have q := cell_kept hSw.out C1.out.1 id; go_simp; try with_reducible rfl)
              change wpAnyU _ _ _ _ _ _ _ _ (Act.put _ (some 54) _) _
              try simp only [Act.put, List.setIfInBounds_toArray, List.set_cons_zero, List.set_cons_succ]
              refine wpAnyU_take (i := 18) (v := ?_) rfl (by kernel_rfl) (by kernel_rfl) (by kernel_rfl) (by kernel_rfl) (fun _ _ _ h => h) (Or.inl ⟨by rfl, ?_⟩) hH ?_
              rotate_left
              · (intro w'' hSw; (try dsimp only at hSw); go_simp; try with_reducible rfl)
              change wpAnyU _ _ _ _ _ _ _ _ (Act.put _ (some 55) _) _
              try simp only [Act.put, List.setIfInBounds_toArray, List.set_cons_zero, List.set_cons_succ]
              refine wpAnyU_take (i := 19) (v := ?_) rfl (by kernel_rfl) (by kernel_rfl) (by kernel_rfl) (by kernel_rfl) (fun _ _ _ h => h) (Or.inl ⟨by rfl, ?_⟩) hH ?_
              rotate_left
              · (intro w'' hSw; (try dsimp only at hSw); go_simp; try with_reducible rfl)
              change wpAnyU _ _ _ _ _ _ _ _ (Act.put _ (some 56) _) _
              try simp only [Act.put, List.setIfInBounds_toArray, List.set_cons_zero, List.set_cons_succ]
              refine wpAnyU_take (i := 20) (v := ?_) rfl (by kernel_rfl) (by kernel_rfl) (by kernel_rfl) (by kernel_rfl) (fun _ _ _ h => h) (Or.inl ⟨by rfl, ?_⟩) hH ?_
              rotate_left
              · (intro w'' hSw; (try dsimp only at hSw); go_simp; try with_reducible rfl)
              change wpAnyU _ _ _ _ _ _ _ _ (Act.put _ (some 57) _) _
              try simp only [Act.put, List.setIfInBounds_toArray, List.set_cons_zero, List.set_cons_succ]
              refine wpAnyU_take (i := 21) (v := ?_) rfl (by kernel_rfl) (by kernel_rfl) (by kernel_rfl) (by kernel_rfl) (fun _ _ _ h => h) (Or.inl ⟨by rfl, ?_⟩) hH ?_
              rotate_left
              · (intro w'' hSw; have q := cell_kept hSw.out C1.out.2.1 id; go_simp; try with_reducible rfl)
              change wpAnyU _ _ _ _ _ _ _ _ (Act.put _ (some 58) _) _
              try simp only [Act.put, List.setIfInBounds_toArray, List.set_cons_zero, List.set_cons_succ]
              refine wpAnyU_take (i := 22) (v := ?_) rfl (by kernel_rfl) (by kernel_rfl) (by kernel_rfl) (by kernel_rfl) (fun _ _ _ h => h) (Or.inl ⟨by rfl, ?_⟩) hH ?_
              rotate_left
              · (intro w'' hSw; (try dsimp only at hSw); go_simp; try with_reducible rfl)
              change wpAnyU _ _ _ _ _ _ _ _ (Act.put _ (some 59) _) _
              try simp only [Act.put, List.setIfInBounds_toArray, List.set_cons_zero, List.set_cons_succ]
              refine wpAnyU_take (i := 23) (v := ?_) rfl (by kernel_rfl) (by kernel_rfl) (by kernel_rfl) (by kernel_rfl) (fun _ _ _ h => h) (Or.inl ⟨by rfl, ?_⟩) hH ?_
              rotate_left
              · (intro w'' hSw; (try dsimp only at hSw); go_simp; try with_reducible rfl)
              change wpAnyU _ _ _ _ _ _ _ _ (Act.put _ (some 60) _) _
              try simp only [Act.put, List.setIfInBounds_toArray, List.set_cons_zero, List.set_cons_succ]
              refine wpAnyU_take (i := 24) (v := ?_) rfl (by kernel_rfl) (by kernel_rfl) (by kernel_rfl) (by kernel_rfl) (fun _ _ _ h => h) (Or.inl ⟨by rfl, ?_⟩) hH ?_
              rotate_left
              · (intro w'' hSw; (try dsimp only at hSw); go_simp; try with_reducible rfl)
              change wpAnyU _ _ _ _ _ _ _ _ (Act.put _ (some 61) _) _
              try simp only [Act.put, List.setIfInBounds_toArray, List.set_cons_zero, List.set_cons_succ]
              refine wpAnyU_take (i := 25) (v := ?_) rfl (by kernel_rfl) (by kernel_rfl) (by kernel_rfl) (by kernel_rfl) (fun _ _ _ h => h) (Or.inl ⟨by rfl, ?_⟩) hH ?_
              rotate_left
              · (intro w'' hSw; (try dsimp only at hSw); go_simp; try with_reducible rfl)
              change wpAnyU _ _ _ _ _ _ _ _ (Act.put _ (some 62) _) _
              try simp only [Act.put, List.setIfInBounds_toArray, List.set_cons_zero, List.set_cons_succ]
              refine wpAnyU_take (i := 26) (v := ?_) rfl (by kernel_rfl) (by kernel_rfl) (by kernel_rfl) (by kernel_rfl) (fun _ _ _ h => h) (Or.inl ⟨by rfl, ?_⟩) hH ?_
              rotate_left
              · (intro w'' hSw; have q := cell_kept hSw.out C1.out.1 id; go_simp; try with_reducible rfl)
              change wpAnyU _ _ _ _ _ _ _ _ (Act.put _ (some 63) _) _
              try simp only [Act.put, List.setIfInBounds_toArray, List.set_cons_zero, List.set_cons_succ]
              refine wpAnyU_take (i := 27) (v := ?_) rfl (by kernel_rfl) (by kernel_rfl) (by kernel_rfl) (by kernel_rfl) (fun _ _ _ h => h) (Or.inl ⟨by rfl, ?_⟩) hH ?_
              rotate_left
              · (intro w'' hSw; (try dsimp only at hSw); go_simp; try with_reducible rfl)
              change wpAnyU _ _ _ _ _ _ _ _ (Act.put _ (some 64) _) _
              try simp only [Act.put, List.setIfInBounds_toArray, List.set_cons_zero, List.set_cons_succ]
              refine wpAnyU_take (i := 28) (v := ?_) rfl (by kernel_rfl) (by kernel_rfl) (by kernel_rfl) (by kernel_rfl) (fun _ _ _ h => h) (Or.inl ⟨by rfl, ?_⟩) hH ?_
              rotate_left
              · (intro w'' hSw; (try dsimp only at hSw); go_simp; try with_reducible rfl)
              change wpAnyU _ _ _ _ _ _ _ _ (Act.put _ (some 65) _) _
              try simp only [Act.put, List.setIfInBounds_toArray, List.set_cons_zero, List.set_cons_succ]
              refine wpAnyU_take (i := 29) (v := ?_) rfl (by kernel_rfl) (by kernel_rfl) (by kernel_rfl) (by kernel_rfl) (fun _ _ _ h => h) (Or.inl ⟨by rfl, ?_⟩) hH ?_
              rotate_left
              · (intro w'' hSw; (try dsimp only at hSw); go_simp; try with_reducible rfl)
              change wpAnyU _ _ _ _ _ _ _ _ (Act.put _ (some 66) _) _
              try simp only [Act.put, List.setIfInBounds_toArray, List.set_cons_zero, List.set_cons_succ]
              refine wpAnyU_take (i := 30) (v := ?_) rfl (by kernel_rfl) (by kernel_rfl) (by kernel_rfl) (by kernel_rfl) (fun _ _ _ h => h) (Or.inl ⟨by rfl, ?_⟩) hH ?_
              rotate_left
              · (intro w'' hSw; have q := cell_kept hSw.out C1.out.2.2.2.1 id; go_simp; try with_reducible rfl)
              change wpAnyU _ _ _ _ _ _ _ _ (Act.put _ (some 67) _) _
              try simp only [Act.put, List.setIfInBounds_toArray, List.set_cons_zero, List.set_cons_succ]
              refine wpAnyU_ready (rs := [31]) (by kernel_rfl) (by simp) ?_
              refine AllReadyU.cons rfl (fun Kn hKn => ?_) AllReadyU.nil
              go_simp
              go_at_call 28
              have hsm := rsome_any _ o M oc (e.passed c).owed HL2.out (by omega) (fun j hj => cell_kept hH.out (by rw [← HW1.out]; exact HCS.out j hj) id)
              rw [HSV.out] at hsm
              refine hsm.mono ?_
              rintro ee wz ⟨rfl, rfl⟩
              clear hsm
              refine hKn.out _ _ ?_ (fun hH => ?_)
              · (exact hH)
              clear hKn Kn
              try simp only [Act.put, List.setIfInBounds_toArray, List.set_cons_zero, List.set_cons_succ]
              refine wpAnyU_take (i := 32) (v := ?_) rfl (by kernel_rfl) (by kernel_rfl) (by kernel_rfl) (by kernel_rfl) (fun _ _ _ h => h) (Or.inl ⟨by rfl, ?_⟩) hH ?_
              rotate_left
              · (intro w'' hSw; (try dsimp only at hSw); go_simp; try with_reducible rfl)
              change wpAnyU _ _ _ _ _ _ _ _ (Act.put _ (some 69) _) _
              try simp only [Act.put, List.setIfInBounds_toArray, List.set_cons_zero, List.set_cons_succ]
              refine wpAnyU_take (i := 33) (v := ?_) rfl (by kernel_rfl) (by kernel_rfl) (by kernel_rfl) (by kernel_rfl) (fun _ _ _ h => h) (Or.inl ⟨by rfl, ?_⟩) hH ?_
              rotate_left
              · (intro w'' hSw; (try dsimp only at hSw); go_simp; try with_reducible rfl)
              change wpAnyU _ _ _ _ _ _ _ _ (Act.put _ (some 70) _) _
              try simp only [Act.put, List.setIfInBounds_toArray, List.set_cons_zero, List.set_cons_succ]
              refine wpAnyU_take (i := 34) (v := ?_) rfl (by kernel_rfl) (by kernel_rfl) (by kernel_rfl) (by kernel_rfl) (fun _ _ _ h => h) (Or.inl ⟨by rfl, ?_⟩) hH ?_
              rotate_left
              · (intro w'' hSw; (try dsimp only at hSw); go_simp; try with_reducible rfl)
              change wpAnyU _ _ _ _ _ _ _ _ (Act.put _ (some 71) _) _
              try simp only [Act.put, List.setIfInBounds_toArray, List.set_cons_zero, List.set_cons_succ]
              refine wpAnyU_pure (i := 35) (v := ?_) rfl (by kernel_rfl) (by kernel_rfl) (by kernel_rfl) (by rfl) (fun _ _ _ h => h) (Or.inl ⟨by rfl, ?_⟩) ?_
              rotate_left
              · (intro w'' _; go_simp; try with_reducible rfl)
              change wpAnyU _ _ _ _ _ _ _ _ (Act.put _ (some 72) _) _
              try simp only [Act.put, List.setIfInBounds_toArray, List.set_cons_zero, List.set_cons_succ]
              refine wpAnyU_pure (i := 36) (v := ?_) rfl (by kernel_rfl) (by kernel_rfl) (by kernel_rfl) (by rfl) (fun _ _ _ h => h) (Or.inl ⟨by rfl, ?_⟩) ?_
              rotate_left
              · (intro w'' _; go_simp; try with_reducible rfl)
              change wpAnyU _ _ _ _ _ _ _ _ (Act.put _ (some 73) _) _
              try simp only [Act.put, List.setIfInBounds_toArray, List.set_cons_zero, List.set_cons_succ]
              refine wpAnyU_ready (rs := [37]) (by kernel_rfl) (by simp) ?_
              refine AllReadyU.last rfl (by rfl) (fun Kn hKn => ?_) AllReadyU.nil
              generalize w1.drew = wz at hH ⊢
              have q11 := cell_kept hH.out C1.out.2.2.1 id
              have f11 := (keep_frozen hH.out G1.out id).trans C1.out.2.2.2.2
              go_simp
              refine hKn.out _ _ ?_
              clear hKn Kn
              try simp only [Act.put, List.setIfInBounds_toArray, List.set_cons_zero, List.set_cons_succ]
              refine wpAnyU_done (by kernel_rfl) ?_ _
              obtain ⟨u', hu'⟩ := HNX.out _ hH.out (!sv) HGV.out
              have HU := Lib.hid hu'
              clear hu'
              go_wp2_with fail
              exact ⟨⟨k + 1, by omega, by go_num, u', HU⟩, by simp [RowKit.intOf]; omega⟩
        · have hb : decide (k < N) = false := by simpa using hlt
          obtain rfl : k = N := by omega
          have hfin := VV.out
          rw [← HN.out, RS.passing_all] at hfin
          have HFI := Lib.hid hfin
          clear hfin
          go_wp2_with fail
          go_ret
          exact ⟨rfl, uk, HFI.out⟩
end Go.Proofs.YtnhajhejkecihaaDoor
/- Install: the reference's Patch. -/
namespace Go.Proofs.YtnhajhejkecihaaDoor
open Go.RowKit Go.Lib
set_option linter.unusedVariables false
set_option linter.unusedSimpArgs false

theorem cutS_to (so : Bytes) (k : Nat) (hk : k ≤ so.length) (W : World) : (Instr.sliceAt 9 (.string (sb so)) none (some (.int .i64 (k : Int))) none).run Tryd.prog W = .ok (.string (sb (so.take k))) W := by
  rw [run_sliceAt_string _ _ _ _ _ _ Tryd.underlying9, run_slice_string_to_if _ _ _ _ _ Tryd.underlying9, if_pos (by rw [sb_size]; omega)]
  congr 2
  rw [Int.toNat_natCast]
  have := bs_take (sb so) k
  rw [bs_sb] at this
  rw [← this]
  rfl
theorem cutS_from (so : Bytes) (k : Nat) (hk : k ≤ so.length) (W : World) : (Instr.sliceAt 9 (.string (sb so)) (some (.int .i64 (k : Int))) none none).run Tryd.prog W = .ok (.string (sb (so.drop k))) W := by
  rw [run_sliceAt_string _ _ _ _ _ _ Tryd.underlying9, run_slice_string_from_if _ _ _ _ _ Tryd.underlying9, if_pos (by rw [sb_size]; omega)]
  congr 2
  rw [Int.toNat_natCast]
  have := bs_drop (sb so) k
  rw [bs_sb] at this
  rw [← this]
  rfl
theorem addS (x y : Bytes) (W : World) (h : x.length + y.length ≤ 1000000) : (Op.stringOp .add (sb x) (sb y)).run Tryd.prog W = .ok (.string (sb (x ++ y))) W := by
  rw [run_string_add_sum W _ _ (by rw [sb_size, sb_size]; omega)]
  congr 2
/-- The bytes of a module turn. -/
theorem IsRef.bytes {n : Nat} {w : World} {q : Nat} {u : RR} {ρ : RS} (h : IsRef n w q u ρ) {k g : Nat} (hk : k < ρ.L.length) (hd : (ρ.at_ k).dropped = false) (hA : u.A = some ⟨g, 0, none⟩) {w1 : World} (hk1 : Keep (fun _ => False) w w1) (b : Bytes) :
    Calls Tryd.prog 68 #[.pointer (some ⟨q, 0, none⟩), .int .i64 k] (w1.setCell ⟨g, k * 13 + 2, none⟩ (.string (sb b))) fun e w' => e = .returned (.tuple #[]) ∧
      ((ρ.put k ((ρ.at_ k).patch ρ.owing b)).Ok → ∃ u', IsRef n w' q u' (ρ.put k ((ρ.at_ k).patch ρ.owing b)) ∧ Keep (u.foot q) w w' ∧ ∀ i, u'.foot q i → u.foot q i ∨ w.heap.size ≤ i) := by
  have h1 := h.quiet hk1
  have hfit := h1.fits k hk
  have hrow := h1.row
  rw [hA] at hrow
  have hst := (hrow.stored (k * 13 + 2) (.string (sb b))).1
  obtain ⟨cg, hcg⟩ := own_type hrow (k := g) rfl
  have hqg : q ≠ g := cells_ne h1.hdr hcg (by decide)
  have ks := keep_set (Keep.refl (fun j => j = g) w1) (k * 13 + 2) (.string (sb b))
  have hh := (ks.block q (blk_lt h1.hdr) hqg).trans h1.hdr
  rw [hA] at hh
  have hcp := h.ok.cpus
  have hkR : k < u.R.length := by rw [h.rlen]; exact hk
  refine (rowe_any (w1.setCell ⟨g, k * 13 + 2, none⟩ (.string (sb b))) hh hst hk h.ok.len hcp.2).mono ?_
  rintro e w2 ⟨rfl, v, ho, hb⟩
  refine ⟨rfl, fun hok => ?_⟩
  have hsz : (w1.setCell ⟨g, k * 13 + 2, none⟩ (.string (sb b))).heap.size = w1.heap.size := by simp [World.setCell]
  rw [hsz] at hb
  obtain ⟨bb, hvb, hlb⟩ := own_some' hb (by omega)
  have hR1 := rowR_set u.R k 2 (.string (sb b)) { (u.R.getD k RE.dflt) with b := b } hkR (by omega) rfl
  have hR2 := rowR_set (u.R.set k { (u.R.getD k RE.dflt) with b := b }) k 12 v { (u.R.getD k RE.dflt) with b := b, v := v } (by rw [List.length_set]; exact hkR) (by omega) (by rw [getD_set hkR, if_pos rfl]; rfl)
  rw [List.set_set, hR1] at hR2
  have hone1 := one_cells hfit.one (r' := { (u.R.getD k RE.dflt) with b := b }) (i := 2) (v := .string (sb b)) rfl rfl
  have hv1 : v.oneCell' = true := by
    obtain ⟨A, c, rfl⟩ := own_slice hb
    rfl
  have hone2 := one_cells hone1 (r' := { (u.R.getD k RE.dflt) with b := b, v := v }) (i := 12) (v := v) rfl hv1
  have hgo : (ρ.at_ k).gone = false := by unfold ME.gone; rw [hd]; rfl
  have hgp : ((ρ.at_ k).patch ρ.owing b).gone = false := by unfold ME.gone; rw [show ((ρ.at_ k).patch ρ.owing b).dropped = false from hd]; rfl
  obtain ⟨x1, x2, x3⟩ := h1.turn hk hA (e' := (ρ.at_ k).patch ρ.owing b) (r' := { (u.R.getD k RE.dflt) with b := b, v := v }) (Keep.mono (Keep.trans ks ho.keep) (fun i e => .inl e)) (by rw [hR2]; exact ho.row)
    ⟨rfl, hfit.a, hfit.d, hfit.g.trans (hgo.trans hgp.symm), (by
      show w2.ownsRow 0 _ 1 v ((ρ.at_ k).patch ρ.owing b).owed.length _
      have e1 : ((ρ.at_ k).patch ρ.owing b).owed = List.replicate ρ.inn.length true := rfl
      rw [e1, List.length_replicate]
      exact own_zero hb), hone2⟩ (.inr ⟨bb, hvb, hlb⟩) hok
  exact ⟨_, x1, Keep.trans (Keep.mono hk1 (fun _ => False.elim)) x2, fun i hi => by
    rcases x3 i hi with y | y
    · exact .inl y
    · have := hk1.size; exact .inr (by omega)⟩
theorem contains_snoc {l : List Int} {j : Nat} {x : Int} (hj : j < l.length) (h : (l.take j).contains x = false) (hx : l.getD j 0 ≠ x) : (l.take (j + 1)).contains x = false := by
  rw [List.take_succ_eq_append_getElem hj, List.contains_eq_any_beq, List.any_append, ← List.contains_eq_any_beq, h]
  rw [List.getD_eq_getElem?_getD, List.getElem?_eq_getElem hj] at hx
  have hx2 : l[j] ≠ x := hx
  simp only [List.any_cons, List.any_nil, Bool.or_false, Bool.false_or, beq_eq_false_iff_ne]
  exact fun e => hx2 e.symm
set_option maxRecDepth 100000 in
set_option maxHeartbeats 4000000 in
theorem rpatch_any {n : Nat} {w : World} {q : Nat} {u : RR} {ρ : RS} (h : IsRef n w q u ρ) (id at_ : Int) (b : Bytes) (hat : -1000 ≤ at_ ∧ at_ ≤ 1000) (hbl : b.length ≤ 1000) :
    Calls Tryd.prog 52 #[.pointer (some ⟨q, 0, none⟩), .int .i64 id, .int .i64 at_, .string (sb b)] w fun e w' => e = .returned (.int .i64 (ρ.patchR id at_ b).1) ∧ ∃ u', IsRef n w' q u' (ρ.patchR id at_ b).2 ∧ Keep (u.foot q) w w' ∧ ∀ i, u'.foot q i → u.foot q i ∨ w.heap.size ≤ i := by
  have HT := Lib.hid (rthere_any h id)
  have HOK := Lib.hid (h.ok.patch id at_ b)
  have K0 := Lib.hid (show ∃ u', IsRef n w q u' ρ ∧ Keep (u.foot q) w w ∧ ∀ i, u'.foot q i → u.foot q i ∨ w.heap.size ≤ i from ⟨u, h, Keep.refl _ _, fun _ => .inl⟩)
  unfold RS.patchR at HOK ⊢
  cases hth : ρ.there id with
  | false =>
    rw [if_pos rfl]
    rw [hth] at HT
    clear hth h HOK
    go_enter Tryd.func52, Tryd.ntmps52
    go_wp2_with fail
    ((with_reducible refine HT.out.mono ?_); rintro ee w' ⟨rfl, rfl⟩)
    go_wp2_with fail
    go_ret
    exact ⟨rfl, K0.out⟩
  | true =>
    rw [hth] at HT
    rw [hth, if_neg (by decide)] at HOK
    rw [if_neg (by decide)]
    obtain ⟨k, rfl, hk, hd⟩ := RS.there_at hth
    simp only [Int.toNat_natCast] at HOK ⊢
    have c0 := h.c0
    have c1 := h.c1
    obtain ⟨g, hA, _, hcells⟩ := h.rows (by omega)
    have q2 := hcells k 2 hk (by omega)
    have hfit := h.fits k hk
    have e2 : (u.R.getD k RE.dflt).cells.getD 2 undef = .string (sb (ρ.at_ k).bytes) := by rw [← hfit.b]; rfl
    rw [e2] at q2
    obtain ⟨old, hold⟩ : ∃ old, (ρ.at_ k).bytes = old := ⟨_, rfl⟩
    have hsz := h.ok.size _ (RS.at_mem hk)
    have hol : old.length ≤ 4096 := by rw [← hold]; unfold ME.stop lns at hsz; omega
    have hln := h.ok.len
    rw [hA] at c0
    rw [hold] at q2 HOK ⊢
    obtain ⟨ol, hole⟩ : ∃ ol, old.length = ol := ⟨_, rfl⟩
    obtain ⟨bl, hble⟩ : ∃ bl, b.length = bl := ⟨_, rfl⟩
    have hs1 : (sb old).size = ol := by rw [sb_size]; exact hole
    have hs2 : (sb b).size = bl := by rw [sb_size]; exact hble
    obtain ⟨N, hN⟩ : ∃ N, ρ.L.length = N := ⟨_, rfl⟩
    rw [hN] at c0 hln
    have hkN : k < N := by omega
    by_cases h1 : at_ < 0
    · have hb1 : decide (at_ < 0) = true := by simpa using h1
      have hf : fitsAt old at_ b = false := by unfold fitsAt; rw [show decide (0 ≤ at_) = false by simp; omega]; rfl
      rw [hf, if_pos rfl]
      clear h hth HOK hcells hfit hold hsz hN hA e2 hf hk
      go_enter Tryd.func52, Tryd.ntmps52
      go_wp2_with fail
      ((with_reducible refine HT.out.mono ?_); rintro ee w' ⟨rfl, rfl⟩)
      go_wp2_with fail
      go_ret
      exact ⟨rfl, K0.out⟩
    · obtain ⟨m, rfl⟩ := Int.eq_ofNat_of_zero_le (show 0 ≤ at_ by omega)
      by_cases h2 : ol < m
      · have hb1 : decide (ol < m) = true := by simpa using h2
        have hf : fitsAt old m b = false := by unfold fitsAt; rw [show decide ((m : Int) ≤ (old.length : Int)) = false by simp; omega]; simp
        rw [hf, if_pos rfl]
        clear h hth HOK hcells hfit hold hsz hN hA e2 hf hk
        go_enter Tryd.func52, Tryd.ntmps52
        go_wp2_with fail
        ((with_reducible refine HT.out.mono ?_); rintro ee w' ⟨rfl, rfl⟩)
        go_wp2_with fail
        go_ret
        exact ⟨rfl, K0.out⟩
      · have hb1 : decide (ol < m) = false := by simpa using h2
        by_cases h3 : b = []
        · subst h3
          have hf : fitsAt old m [] = false := by unfold fitsAt; simp
          rw [hf, if_pos rfl]
          clear h hth HOK hcells hfit hold hsz hN hA e2 hf hk hs2
          have hsb : sb ([] : Bytes) = ⟨#[]⟩ := rfl
          rw [hsb]
          clear hsb
          go_enter Tryd.func52, Tryd.ntmps52
          go_wp2_with fail
          ((with_reducible refine HT.out.mono ?_); rintro ee w' ⟨rfl, rfl⟩)
          go_wp2_with fail
          go_ret
          exact ⟨rfl, K0.out⟩
        · have hbp : 0 < bl := by rw [← hble]; exact List.length_pos_iff.2 h3
          have hemp : (sb b).toList.isEmpty = false := by
            rw [← decide_eq_emptyBytes]
            refine decide_eq_false (fun e => ?_)
            have := congrArg ByteArray.size e
            rw [hs2] at this
            have e0 : (ByteArray.empty).size = 0 := rfl
            omega
          have hneg : decide ((m : Int) < 0) = false := by simp
          by_cases h4 : (bl : Int) > (ol : Int) - (m : Int)
          · have hb2 : decide ((ol : Int) - (m : Int) < (bl : Int)) = true := by simpa using h4
            have hf : fitsAt old m b = false := by unfold fitsAt; rw [show decide ((b.length : Int) ≤ (old.length : Int) - (m : Int)) = false by simp; omega]; simp
            rw [hf, if_pos rfl]
            clear h hth HOK hcells hfit hold hsz hN hA e2 hf hk
            go_enter Tryd.func52, Tryd.ntmps52
            go_wp2_with fail
            ((with_reducible refine HT.out.mono ?_); rintro ee w' ⟨rfl, rfl⟩)
            go_wp2_with fail
            go_ret
            exact ⟨rfl, K0.out⟩
          · have hb2 : decide ((ol : Int) - (m : Int) < (bl : Int)) = false := by simpa using h4
            have hf : fitsAt old m b = true := by
              unfold fitsAt
              rw [show decide ((0 : Int) ≤ (m : Int)) = true by simp, show decide ((m : Int) ≤ (old.length : Int)) = true by simp; omega, show decide ((b.length : Int) ≤ (old.length : Int) - (m : Int)) = true by simp; omega]
              simp [h3]
            rw [hf, if_neg (by decide)] at HOK
            rw [hf, if_neg (by decide)]
            obtain ⟨bI, hI, _, hcp⟩ := h.cpus
            have hM4 := h.ok.cpus
            rw [hI] at c1
            have HB := Lib.hid (fun (w1 : World) (hk1 : Keep (fun _ => False) w w1) => h.bytes hk hd hA hk1 (spliced old (m : Int) b))
            have hrow := h.row
            rw [hA] at hrow
            have G2 := Lib.hid (And.intro q2 (And.intro c0 (And.intro (own_lt hrow g rfl) (hrow.frozenAt (k * 13 + 2)))))
            have HCP := Lib.hid hcp
            obtain ⟨M, hM⟩ : ∃ M, ρ.inn.length = M := ⟨_, rfl⟩
            rw [hM] at c1 hM4 HCP
            have HM := Lib.hid hM
            have Z0 := Lib.hid (show (ρ.inn.take 0).contains (k : Int) = false from rfl)
            have ZW := Lib.hid (show w = w from rfl)
            have hcut := cutS_to old m (by omega)
            have hcut2 := cutS_from old (m + bl) (by omega)
            have hadd1 := fun W => addS (old.take m) b W (by rw [List.length_take]; omega)
            have hadd2 := fun W => addS (old.take m ++ b) (old.drop (m + bl)) W (by rw [List.length_append, List.length_take, List.length_drop]; omega)
            have hspl : old.take m ++ b ++ old.drop (m + bl) = spliced old (m : Int) b := by unfold spliced; rw [Int.toNat_natCast, hble]
            rw [hspl] at hadd2
            have hmi : ((m + bl : Nat) : Int) = (m : Int) + (bl : Int) := by omega
            rw [hmi] at hcut2
            have HWR := Lib.hid (show IntKind.i64.wrap ((m : Int) + (bl : Int)) = (m : Int) + (bl : Int) by rw [IntKind.wrap_i64]; omega)
            have HC1 := Lib.hid hcut
            have HC2 := Lib.hid hcut2
            have HA1 := Lib.hid hadd1
            have HA2 := Lib.hid hadd2
            have hmb : m + bl ≤ 10000 := by omega
            clear h hth hcells hfit hold hsz hN hA e2 hf hk hI hcp hM hrow hcut hcut2 hadd1 hadd2 hspl hmi
            cases hco : ρ.inn.contains (k : Int) with
            | true =>
              rw [if_pos rfl]
              have HCO := Lib.hid hco
              clear hco HOK
              go_enter Tryd.func52, Tryd.ntmps52
              go_wp2_with fail
              ((with_reducible refine HT.out.mono ?_); rintro ee w' ⟨rfl, rfl⟩)
              go_wp2_with fail
              clear hneg hemp q2 c0
              go_loopw [10] (fun i wr => ∃ j : Nat, j ≤ M ∧ i = .int .i64 (j : Int) ∧ Hid ((ρ.inn.take j).contains (k : Int) = false) ∧ Hid (w = wr)) (fun i _ => M + 1 - (RowKit.intOf i).toNat)
              case atStart => exact ⟨0, Nat.zero_le _, rfl, Z0, (by first | exact Lib.hid rfl | exact Lib.hid trivial)⟩
              case round =>
                obtain ⟨j, hj, rfl, HZ, HW⟩ := hrel
                obtain rfl := HW.out
                by_cases hlt : j < M
                · have hb : decide (j < M) = true := by simpa using hlt
                  have qj := HCP.out j hlt
                  obtain ⟨iv, hiv⟩ : ∃ iv, ρ.inn.getD j 0 = iv := ⟨_, rfl⟩
                  rw [hiv] at qj
                  by_cases hik : iv = (k : Int)
                  · subst hik
                    clear hiv
                    go_wp2_with fail
                    go_ret
                    exact ⟨rfl, K0.out⟩
                  · have hne : (iv == (k : Int)) = false := by simpa using hik
                    have HZN := Lib.hid (contains_snoc (show j < ρ.inn.length by rw [HM.out]; exact hlt) HZ.out (by rw [hiv]; exact hik))
                    clear hiv hik
                    go_wp2_with fail
                    exact ⟨⟨j + 1, by omega, by go_num, HZN, (by first | exact Lib.hid rfl | exact Lib.hid trivial)⟩, by simp [RowKit.intOf]; omega⟩
                · exfalso
                  obtain rfl : j = M := by omega
                  have h7 := HZ.out
                  rw [List.take_of_length_le (by rw [HM.out]; exact Nat.le_refl _), HCO.out] at h7
                  cases h7
            | false =>
              rw [hco, if_neg (by decide)] at HOK
              rw [if_neg (by decide)]
              have HCO := Lib.hid hco
              clear hco
              go_enter Tryd.func52, Tryd.ntmps52
              go_wp2_with fail
              ((with_reducible refine HT.out.mono ?_); rintro ee w' ⟨rfl, rfl⟩)
              go_wp2_with fail
              clear hneg hemp q2 c0
              go_loopw [10] (fun i wr => ∃ j : Nat, j ≤ M ∧ i = .int .i64 (j : Int) ∧ Hid (w = wr)) (fun i _ => M + 1 - (RowKit.intOf i).toNat)
              case atStart => exact ⟨0, Nat.zero_le _, rfl, (by first | exact Lib.hid rfl | exact Lib.hid trivial)⟩
              case round =>
                obtain ⟨j, hj, rfl, HW⟩ := hrel
                obtain rfl := HW.out
                by_cases hlt : j < M
                · have hb : decide (j < M) = true := by simpa using hlt
                  have qj := HCP.out j hlt
                  obtain ⟨iv, hiv⟩ : ∃ iv, ρ.inn.getD j 0 = iv := ⟨_, rfl⟩
                  rw [hiv] at qj
                  have hne : (iv == (k : Int)) = false := by
                    simp only [beq_eq_false_iff_ne]
                    rintro rfl
                    have hm : (k : Int) ∈ ρ.inn := by rw [← hiv]; exact getD_mem (by rw [HM.out]; exact hlt)
                    have := HCO.out
                    rw [List.contains_iff_mem.2 hm] at this
                    cases this
                  clear hiv
                  go_wp2_with fail
                  exact ⟨⟨j + 1, by omega, by go_num, (by first | exact Lib.hid rfl | exact Lib.hid trivial)⟩, by simp [RowKit.intOf]; omega⟩
                · have hb : decide (j < M) = false := by simpa using hlt
                  obtain rfl : j = M := by omega
                  go_upto_region 11 with (fail)
                  refine wp_region_drewU (S := (fun w' => Hid (Keep (fun _ => False) w w'))) (D := [17, 18, 19, 20]) (by kernel_rfl) (by exact Lib.hid (keep_draw _ w)) (fun hH => ?_)
                  refine wpAnyU_take (i := 0) (v := ?_) rfl (by kernel_rfl) (by kernel_rfl) (by kernel_rfl) (by kernel_rfl) (fun _ _ _ h => h) (Or.inl ⟨by rfl, ?_⟩) hH ?_
                  rotate_left
                  · (intro w'' hSw; (try dsimp only at hSw); go_simp; try with_reducible rfl)
                  change wpAnyU _ _ _ _ _ _ _ _ (Act.put _ (some 63) _) _
                  try simp only [Act.put, List.setIfInBounds_toArray, List.set_cons_zero, List.set_cons_succ]
                  refine wpAnyU_take (i := 1) (v := ?_) rfl (by kernel_rfl) (by kernel_rfl) (by kernel_rfl) (by kernel_rfl) (fun _ _ _ h => h) (Or.inl ⟨by rfl, ?_⟩) hH ?_
                  rotate_left
                  · (intro w'' hSw; (try dsimp only at hSw); go_simp; try with_reducible rfl)
                  change wpAnyU _ _ _ _ _ _ _ _ (Act.put _ (some 64) _) _
                  try simp only [Act.put, List.setIfInBounds_toArray, List.set_cons_zero, List.set_cons_succ]
                  refine wpAnyU_take (i := 2) (v := ?_) rfl (by kernel_rfl) (by kernel_rfl) (by kernel_rfl) (by kernel_rfl) (fun _ _ _ h => h) (Or.inl ⟨by rfl, ?_⟩) hH ?_
                  rotate_left
                  · (intro w'' hSw; (try dsimp only at hSw); go_simp; try with_reducible rfl)
                  change wpAnyU _ _ _ _ _ _ _ _ (Act.put _ (some 65) _) _
                  try simp only [Act.put, List.setIfInBounds_toArray, List.set_cons_zero, List.set_cons_succ]
                  refine wpAnyU_take (i := 3) (v := ?_) rfl (by kernel_rfl) (by kernel_rfl) (by kernel_rfl) (by kernel_rfl) (fun _ _ _ h => h) (Or.inl ⟨by rfl, ?_⟩) hH ?_
                  rotate_left
                  · (intro w'' hSw; have q := cell_kept hSw.out G2.out.2.1 id; go_simp; try with_reducible rfl)
                  change wpAnyU _ _ _ _ _ _ _ _ (Act.put _ (some 66) _) _
                  try simp only [Act.put, List.setIfInBounds_toArray, List.set_cons_zero, List.set_cons_succ]
                  refine wpAnyU_take (i := 4) (v := ?_) rfl (by kernel_rfl) (by kernel_rfl) (by kernel_rfl) (by kernel_rfl) (fun _ _ _ h => h) (Or.inl ⟨by rfl, ?_⟩) hH ?_
                  rotate_left
                  · (intro w'' hSw; (try dsimp only at hSw); go_simp; try with_reducible rfl)
                  change wpAnyU _ _ _ _ _ _ _ _ (Act.put _ (some 67) _) _
                  try simp only [Act.put, List.setIfInBounds_toArray, List.set_cons_zero, List.set_cons_succ]
                  refine wpAnyU_take (i := 5) (v := ?_) rfl (by kernel_rfl) (by kernel_rfl) (by kernel_rfl) (by kernel_rfl) (fun _ _ _ h => h) (Or.inl ⟨by rfl, ?_⟩) hH ?_
                  rotate_left
                  · (intro w'' hSw; (try dsimp only at hSw); go_simp; try with_reducible rfl)
                  change wpAnyU _ _ _ _ _ _ _ _ (Act.put _ (some 68) _) _
                  try simp only [Act.put, List.setIfInBounds_toArray, List.set_cons_zero, List.set_cons_succ]
                  refine wpAnyU_take (i := 6) (v := ?_) rfl (by kernel_rfl) (by kernel_rfl) (by kernel_rfl) (by kernel_rfl) (fun _ _ _ h => h) (Or.inl ⟨by rfl, ?_⟩) hH ?_
                  rotate_left
                  · (intro w'' hSw; (try dsimp only at hSw); go_simp; try with_reducible rfl)
                  change wpAnyU _ _ _ _ _ _ _ _ (Act.put _ (some 69) _) _
                  try simp only [Act.put, List.setIfInBounds_toArray, List.set_cons_zero, List.set_cons_succ]
                  refine wpAnyU_take (i := 7) (v := ?_) rfl (by kernel_rfl) (by kernel_rfl) (by kernel_rfl) (by kernel_rfl) (fun _ _ _ h => h) (Or.inl ⟨by rfl, ?_⟩) hH ?_
                  rotate_left
                  · (intro w'' hSw; have q := HC1.out w''; go_simp; try with_reducible rfl)
                  change wpAnyU _ _ _ _ _ _ _ _ (Act.put _ (some 70) _) _
                  try simp only [Act.put, List.setIfInBounds_toArray, List.set_cons_zero, List.set_cons_succ]
                  refine wpAnyU_take (i := 8) (v := ?_) rfl (by kernel_rfl) (by kernel_rfl) (by kernel_rfl) (by kernel_rfl) (fun _ _ _ h => h) (Or.inl ⟨by rfl, ?_⟩) hH ?_
                  rotate_left
                  · (intro w'' hSw; (try dsimp only at hSw); go_simp; try with_reducible rfl)
                  change wpAnyU _ _ _ _ _ _ _ _ (Act.put _ (some 71) _) _
                  try simp only [Act.put, List.setIfInBounds_toArray, List.set_cons_zero, List.set_cons_succ]
                  refine wpAnyU_take (i := 9) (v := ?_) rfl (by kernel_rfl) (by kernel_rfl) (by kernel_rfl) (by kernel_rfl) (fun _ _ _ h => h) (Or.inl ⟨by rfl, ?_⟩) hH ?_
                  rotate_left
                  · (intro w'' hSw; have q := HA1.out w''; go_simp; try with_reducible rfl)
                  change wpAnyU _ _ _ _ _ _ _ _ (Act.put _ (some 72) _) _
                  try simp only [Act.put, List.setIfInBounds_toArray, List.set_cons_zero, List.set_cons_succ]
                  refine wpAnyU_take (i := 10) (v := ?_) rfl (by kernel_rfl) (by kernel_rfl) (by kernel_rfl) (by kernel_rfl) (fun _ _ _ h => h) (Or.inl ⟨by rfl, ?_⟩) hH ?_
                  rotate_left
                  · (intro w'' hSw; (try dsimp only at hSw); go_simp; try with_reducible rfl)
                  change wpAnyU _ _ _ _ _ _ _ _ (Act.put _ (some 73) _) _
                  try simp only [Act.put, List.setIfInBounds_toArray, List.set_cons_zero, List.set_cons_succ]
                  refine wpAnyU_take (i := 11) (v := ?_) rfl (by kernel_rfl) (by kernel_rfl) (by kernel_rfl) (by kernel_rfl) (fun _ _ _ h => h) (Or.inl ⟨by rfl, ?_⟩) hH ?_
                  rotate_left
                  · (intro w'' hSw; (try dsimp only at hSw); go_simp; try with_reducible rfl)
                  change wpAnyU _ _ _ _ _ _ _ _ (Act.put _ (some 74) _) _
                  try simp only [Act.put, List.setIfInBounds_toArray, List.set_cons_zero, List.set_cons_succ]
                  refine wpAnyU_take (i := 12) (v := ?_) rfl (by kernel_rfl) (by kernel_rfl) (by kernel_rfl) (by kernel_rfl) (fun _ _ _ h => h) (Or.inl ⟨by rfl, ?_⟩) hH ?_
                  rotate_left
                  · (intro w'' hSw; (try dsimp only at hSw); go_simp; try with_reducible rfl)
                  change wpAnyU _ _ _ _ _ _ _ _ (Act.put _ (some 75) _) _
                  try simp only [Act.put, List.setIfInBounds_toArray, List.set_cons_zero, List.set_cons_succ]
                  refine wpAnyU_take (i := 13) (v := ?_) rfl (by kernel_rfl) (by kernel_rfl) (by kernel_rfl) (by kernel_rfl) (fun _ _ _ h => h) (Or.inl ⟨by rfl, ?_⟩) hH ?_
                  rotate_left
                  · (intro w'' hSw; (try dsimp only at hSw); go_simp; try with_reducible rfl)
                  change wpAnyU _ _ _ _ _ _ _ _ (Act.put _ (some 76) _) _
                  try simp only [Act.put, List.setIfInBounds_toArray, List.set_cons_zero, List.set_cons_succ]
                  refine wpAnyU_take (i := 14) (v := ?_) rfl (by kernel_rfl) (by kernel_rfl) (by kernel_rfl) (by kernel_rfl) (fun _ _ _ h => h) (Or.inl ⟨by rfl, ?_⟩) hH ?_
                  rotate_left
                  · (intro w'' hSw; have q := HWR.out; go_simp; try with_reducible rfl)
                  change wpAnyU _ _ _ _ _ _ _ _ (Act.put _ (some 77) _) _
                  try simp only [Act.put, List.setIfInBounds_toArray, List.set_cons_zero, List.set_cons_succ]
                  refine wpAnyU_take (i := 15) (v := ?_) rfl (by kernel_rfl) (by kernel_rfl) (by kernel_rfl) (by kernel_rfl) (fun _ _ _ h => h) (Or.inl ⟨by rfl, ?_⟩) hH ?_
                  rotate_left
                  · (intro w'' hSw; have q := HC2.out w''; go_simp; try with_reducible rfl)
                  change wpAnyU _ _ _ _ _ _ _ _ (Act.put _ (some 78) _) _
                  try simp only [Act.put, List.setIfInBounds_toArray, List.set_cons_zero, List.set_cons_succ]
                  refine wpAnyU_take (i := 16) (v := ?_) rfl (by kernel_rfl) (by kernel_rfl) (by kernel_rfl) (by kernel_rfl) (fun _ _ _ h => h) (Or.inl ⟨by rfl, ?_⟩) hH ?_
                  rotate_left
                  · (intro w'' hSw; have q := HA2.out w''; go_simp; try with_reducible rfl)
                  change wpAnyU _ _ _ _ _ _ _ _ (Act.put _ (some 79) _) _
                  try simp only [Act.put, List.setIfInBounds_toArray, List.set_cons_zero, List.set_cons_succ]
                  refine wpAnyU_pure (i := 17) (v := ?_) rfl (by kernel_rfl) (by kernel_rfl) (by kernel_rfl) (by rfl) (fun _ _ _ h => h) (Or.inl ⟨by rfl, ?_⟩) ?_
                  rotate_left
                  · (intro w'' _; go_simp; try with_reducible rfl)
                  change wpAnyU _ _ _ _ _ _ _ _ (Act.put _ (some 80) _) _
                  try simp only [Act.put, List.setIfInBounds_toArray, List.set_cons_zero, List.set_cons_succ]
                  refine wpAnyU_pure (i := 18) (v := ?_) rfl (by kernel_rfl) (by kernel_rfl) (by kernel_rfl) (by rfl) (fun _ _ _ h => h) (Or.inl ⟨by rfl, ?_⟩) ?_
                  rotate_left
                  · (intro w'' _; go_simp; try with_reducible rfl)
                  change wpAnyU _ _ _ _ _ _ _ _ (Act.put _ (some 81) _) _
                  try simp only [Act.put, List.setIfInBounds_toArray, List.set_cons_zero, List.set_cons_succ]
                  refine wpAnyU_pure (i := 19) (v := ?_) rfl (by kernel_rfl) (by kernel_rfl) (by kernel_rfl) (by rfl) (fun _ _ _ h => h) (Or.inl ⟨by rfl, ?_⟩) ?_
                  rotate_left
                  · (intro w'' _; go_simp; try with_reducible rfl)
                  change wpAnyU _ _ _ _ _ _ _ _ (Act.put _ (some 82) _) _
                  try simp only [Act.put, List.setIfInBounds_toArray, List.set_cons_zero, List.set_cons_succ]
                  refine wpAnyU_ready (rs := [20]) (by kernel_rfl) (by simp) ?_
                  refine AllReadyU.last rfl (by rfl) (fun Kn hKn => ?_) AllReadyU.nil
                  generalize w.drew = wz at hH ⊢
                  have q2 := cell_kept hH.out G2.out.1 id
                  have f2 := (keep_frozen hH.out G2.out.2.2.1 id).trans G2.out.2.2.2
                  go_simp
                  refine hKn.out _ _ ?_
                  clear hKn Kn
                  try simp only [Act.put, List.setIfInBounds_toArray, List.set_cons_zero, List.set_cons_succ]
                  refine wpAnyU_done (by kernel_rfl) ?_ _
                  have HBX := Lib.hid (HB.out _ hH.out)
                  go_wp2_with fail
                  ((with_reducible refine HBX.out.mono ?_); rintro ee w3 ⟨rfl, hfin⟩)
                  have HFI := Lib.hid (hfin HOK.out)
                  clear hfin
                  go_wp2_with fail
                  go_ret
                  exact ⟨rfl, HFI.out⟩
end Go.Proofs.YtnhajhejkecihaaDoor
/- Install: the reference's Add. -/
namespace Go.Proofs.YtnhajhejkecihaaDoor
open Go.RowKit Go.Lib
set_option linter.unusedVariables false
set_option linter.unusedSimpArgs false

theorem RE.info : (Tryd.prog.info? 76).map (fun i => (i.zero, i.size, i.bytes)) = some (some (.agg z13), 13, 184) := by kernel_rfl
theorem countP_take {L : List ME} {p : ME → Bool} {j : Nat} (hj : j < L.length) : (L.take (j + 1)).countP p = (L.take j).countP p + if p (L.getD j ME.dflt) then 1 else 0 := by
  rw [List.take_succ_eq_append_getElem hj, List.countP_append, List.getD_eq_getElem?_getD, List.getElem?_eq_getElem hj]
  simp [List.countP_cons]
theorem own_keep' {w w' : World} {r : Option Nat} (h : w.grownBy w' r) : Keep (fun i => r = some i) w w' := (Keep.refl _ w).grown h (fun k e => .inl e)
def RE.fresh (b : Bytes) (x : MX) (p : Nat) (v : Value) : RE := ⟨b, x, p, false, false, v⟩
section
variable {n : Nat} {w w' : World} {q : Nat} {u : RR} {ρ : RS}
/-- A module has been appended, and it is owed. -/
theorem IsRef.grown (h : IsRef n w q u ρ) {g ac : Nat} {b : Bytes} {x : MX} {p : Nat} {v : Value} {w1 : World} (hb : 0 < b.length) (hp : p + lns b.length ≤ 256) (hl : ρ.L.length < 1000000) (hx : (mcells b x).toArray.all (·.oneCell') = true)
    (hk1 : Keep (fun i => i = q ∨ (Value.slice u.A ρ.L.length u.ac).ownBlock = some i) w w1) (hg : (Value.slice u.A ρ.L.length u.ac).ownBlock = some g ∨ w.heap.size ≤ g)
    (ho : OW w1 q g (ρ.L.length + 1) ac ρ.inn.length u.I u.ic (rowR u.R ++ (RE.fresh b x p (.slice none 0 0)).cells) ρ.L.length v w') (hv : w'.ownsRow w1.heap.size 4 1 v ρ.inn.length (bools (List.replicate ρ.inn.length true))) :
    ∃ u', IsRef n w' q u' (ρ.added b p) ∧ Keep (u.foot q) w w' ∧ ∀ i, u'.foot q i → u.foot q i ∨ w.heap.size ≤ i := by
  have hll : (ρ.added b p).L.length = ρ.L.length + 1 := by simp [RS.added]
  have hat : ∀ i, i < ρ.L.length → (ρ.added b p).at_ i = ρ.at_ i := fun i hi => by
    unfold RS.at_ RS.added
    simp only [List.getD_eq_getElem?_getD]
    rw [List.getElem?_append_left hi]
  have hatN : (ρ.added b p).at_ ρ.L.length = ⟨ρ.L.length, p, b, false, ρ.owing⟩ := by
    unfold RS.at_ RS.added
    simp only [List.getD_eq_getElem?_getD]
    rw [List.getElem?_append_right (Nat.le_refl _), Nat.sub_self]
    rfl
  have hrl := h.rlen
  have hRat : ∀ i, i < ρ.L.length → (u.R ++ [RE.fresh b x p v]).getD i RE.dflt = u.R.getD i RE.dflt := fun i hi => by
    simp only [List.getD_eq_getElem?_getD]
    rw [List.getElem?_append_left (by omega)]
  have hRatN : (u.R ++ [RE.fresh b x p v]).getD ρ.L.length RE.dflt = RE.fresh b x p v := by
    simp only [List.getD_eq_getElem?_getD]
    rw [List.getElem?_append_right (by omega), hrl, Nat.sub_self]
    rfl
  have hrow : rowR (u.R ++ [RE.fresh b x p v]) = (rowR u.R ++ (RE.fresh b x p (.slice none 0 0)).cells).set (ρ.L.length * 13 + 12) v := by
    rw [List.set_append_right _ _ (by rw [rowR_length, hrl]; omega), rowR_length, hrl, rowR_append, rowR_one]
    congr 1
    rw [show ρ.L.length * 13 + 12 - ρ.L.length * 13 = 12 by omega]
    rfl
  have hkk : Keep (fun i => i = q ∨ (Value.slice u.A ρ.L.length u.ac).ownBlock = some i) w w' := hk1.then ho.keep (fun i e => by subst e; rcases hg with hg | hg; exact .inl (.inr hg); exact .inr hg)
  have hws := hk1.size
  obtain ⟨vb, hvb, hvl⟩ := own_some' hv (by have := h.ok.cpus; omega)
  have hfar : ∀ i, i < ρ.L.length → ∀ k, (u.R.getD i RE.dflt).v.ownBlock = some k → ¬ (k = q ∨ (Value.slice u.A ρ.L.length u.ac).ownBlock = some k) := fun i hi k hk => by
    obtain ⟨cur, hc⟩ := own_type (h.fits i hi).own hk
    rintro (e | e)
    · subst e; exact cells_ne h.hdr hc (by decide) rfl
    · exact blk_own_ne hc h.row e (by decide) rfl
  have hfoot : ∀ i, ({ u with A := some ⟨g, 0, none⟩, ac := ac, R := u.R ++ [RE.fresh b x p v] } : RR).foot q i → u.foot q i ∨ w.heap.size ≤ i := by
    rintro i (h1 | ⟨a, h1, h2⟩ | h1 | ⟨r, hr, h1⟩)
    · exact .inl (.inl h1)
    · injection h1 with h1
      subst h1
      simp only at h2
      subst h2
      rcases hg with hg | hg
      · exact .inl (.inr (.inl (ob_slice.1 hg)))
      · exact .inr hg
    · exact .inl (.inr (.inr (.inl h1)))
    · rcases List.mem_append.1 hr with hr | hr
      · exact .inl (.inr (.inr (.inr ⟨r, hr, h1⟩)))
      · rw [List.mem_singleton.1 hr] at h1
        have : v.ownBlock = some i := h1
        rw [hvb] at this
        injection this with this
        exact .inr (by omega)
  refine ⟨_, ⟨?_, ?_, ?_, fun i hi => ?_, fun i j hij hj => ?_, fun i hi => ?_, h.ok.added hb hp hl⟩, Keep.mono hkk (fun i e => ?_), hfoot⟩
  · rw [hll]; exact ho.hdr
  · rw [hll]
    show w'.ownsRow 0 _ 13 _ _ (rowR (u.R ++ [RE.fresh b x p v]))
    rw [hrow]
    exact ho.row
  · refine hkk.own h.inn (fun k hk => ?_)
    obtain ⟨cur, hc⟩ := own_type h.inn hk
    rintro (e | e)
    · subst e; exact cells_ne h.hdr hc (by decide) rfl
    · exact blk_own_ne hc h.row e (by decide) rfl
  · rw [hll] at hi
    show Fits w' _ ((u.R ++ [RE.fresh b x p v]).getD i RE.dflt)
    by_cases hiN : i < ρ.L.length
    · rw [hat i hiN, hRat i hiN]
      exact (h.fits i hiN).keep hkk (hfar i hiN)
    · obtain rfl : i = ρ.L.length := by omega
      rw [hatN, hRatN]
      refine ⟨rfl, rfl, rfl, rfl, ?_, ?_⟩
      · show w'.ownsRow 0 _ 1 v ρ.owing.length (bools ρ.owing)
        have : ρ.owing.length = ρ.inn.length := by simp [RS.owing]
        rw [this]
        exact own_zero hv
      · have hv1 : v.oneCell' = true := by
          obtain ⟨A, c, rfl⟩ := own_slice hv
          rfl
        rw [List.all_toArray, List.all_eq_true] at hx ⊢
        intro y hy
        simp only [mcells, List.mem_cons, List.not_mem_nil, or_false, forall_eq_or_imp, forall_eq] at hx
        simp only [RE.fresh, RE.cells, List.mem_cons, List.not_mem_nil, or_false] at hy
        obtain ⟨a0, a1, a2, a3, a4, a5, a6, a7, a8⟩ := hx
        rcases hy with rfl | rfl | rfl | rfl | rfl | rfl | rfl | rfl | rfl | rfl | rfl | rfl | rfl
        · exact a0
        · exact a1
        · rfl
        · exact a3
        · exact a4
        · exact a5
        · exact a6
        · exact a7
        · exact a8
        · rfl
        · rfl
        · rfl
        · exact hv1
  · rw [hll] at hj
    show ((u.R ++ [RE.fresh b x p v]).getD i RE.dflt).v.ownBlock ≠ ((u.R ++ [RE.fresh b x p v]).getD j RE.dflt).v.ownBlock
    rw [hRat i (by omega)]
    by_cases hjN : j < ρ.L.length
    · rw [hRat j hjN]; exact h.apart i j hij hjN
    · obtain rfl : j = ρ.L.length := by omega
      rw [hRatN]
      show _ ≠ v.ownBlock
      rw [hvb]
      intro e
      have := own_lt (h.fits i hij).own _ e
      omega
  · rcases hfoot i hi with h1 | h1
    · exact h.low i h1
    · have := h.base; omega
  · rcases e with e | e
    · exact .inl e
    · exact .inr (.inl (ob_slice.1 e))
end
set_option maxRecDepth 100000 in
set_option maxHeartbeats 8000000 in
theorem radd_any {n : Nat} {w : World} {q : Nat} {u : RR} {ρ : RS} (h : IsRef n w q u ρ) (b : Bytes) (x : MX) (hx : (mcells b x).toArray.all (·.oneCell') = true) (hbl : b.length ≤ 100000) (hl : ρ.L.length < 1000000) :
    Calls Tryd.prog 54 #[.pointer (some ⟨q, 0, none⟩), modV b x] w fun e w' => e = .returned (.tuple #[.int .i64 (ρ.addR b).1, .int .i64 (ρ.addR b).2.1]) ∧ ∃ u', IsRef n w' q u' (ρ.addR b).2.2 ∧ Keep (u.foot q) w w' ∧ ∀ i, u'.foot q i → u.foot q i ∨ w.heap.size ≤ i := by
  have hkA := (Keep.refl (fun _ => False) w).alloc' (.cells (mcells b x).toArray 43)
  have hbk := heap_alloc_new w (.cells (mcells b x).toArray 43)
  have m2 : (w.alloc (.cells (mcells b x).toArray 43)).cell? ⟨w.heap.size, 2, none⟩ = some (.string (sb b)) := (blk_cell hbk 2).trans rfl
  have K0 := Lib.hid (fun (w2 : World) (hk : Keep (fun _ => False) w w2) => show ∃ u', IsRef n w2 q u' ρ ∧ Keep (u.foot q) w w2 ∧ ∀ i, u'.foot q i → u.foot q i ∨ w.heap.size ≤ i from ⟨u, h.quiet hk, Keep.mono hk (fun _ => False.elim), fun _ => .inl⟩)
  have HBK := Lib.hid hbk
  have HKA := Lib.hid hkA
  have HX := Lib.hid hx
  have H := Lib.hid h
  have HBG := Lib.hid (fun (p : Nat) (hp : ρ.abs.place b.length = some p) (hb : 0 < b.length) => h.ok.place_some hb hp)
  have HBN := Lib.hid (fun (hp : ρ.abs.place b.length = none) (hb : 0 < b.length) => h.ok.place_none hb hp)
  have c0 := (h.quiet hkA).c0
  have c1 := (h.quiet hkA).c1
  obtain ⟨x0, x1, x2, x3, x4, x5, x6, x7, hxo⟩ := x
  have HXO := Lib.hid hxo
  replace HX : Hid ((#[x0, x1, .string (sb b), x2, x3, x4, x5, x6, x7] : Array Value).all (·.oneCell') = true) := Lib.hid HX.out
  unfold modV
  unfold mcells at hbk m2 HBK HKA c0 c1 ⊢
  dsimp only at hbk m2 HBK HKA c0 c1 ⊢
  clear h hx hkA hbk hxo
  unfold RS.addR
  obtain ⟨L, hL⟩ : ∃ L, b.length = L := ⟨_, rfl⟩
  have hs2 : (sb b).size = L := by rw [sb_size]; exact hL
  by_cases hb0 : L = 0
  · rw [if_pos (.inl (by omega))]
    subst hb0
    clear c0 c1
    go_enter Tryd.func54, Tryd.ntmps54
    go_wp2_with fail
    go_ret2
    exact ⟨rfl, K0.out _ HKA.out⟩
  · by_cases hb1 : 4096 < L
    · rw [if_pos (.inr (by omega))]
      have hd0 : ((L : Int) == 0) = false := by simp; omega
      have hd1 : decide (4096 < L) = true := by simpa using hb1
      clear c0 c1
      go_enter Tryd.func54, Tryd.ntmps54
      go_wp2_with fail
      go_ret2
      exact ⟨rfl, K0.out _ HKA.out⟩
    · rw [if_neg (by omega)]
      generalize hR : (if 16 ≤ ρ.many then _ else _) = R
      have HR := Lib.hid hR
      clear hR
      have hd0 : ((L : Int) == 0) = false := by simp; omega
      have hd1 : decide (4096 < L) = false := by simpa using hb1
      obtain ⟨N, hN⟩ : ∃ N, ρ.L.length = N := ⟨_, rfl⟩
      obtain ⟨w1, hw1⟩ : ∃ w1, w.alloc (.cells #[x0, x1, .string (sb b), x2, x3, x4, x5, x6, x7] 43) = w1 := ⟨_, rfl⟩
      have HW1 := Lib.hid hw1
      have V0 := Lib.hid (show (ρ.L.take 0).countP (fun e => !e.gone) = 0 ∧ Keep (fun _ => False) w w1 from ⟨rfl, hw1 ▸ HKA.out⟩)
      obtain ⟨B, hB⟩ : ∃ B, w.heap.size = B := ⟨_, rfl⟩
      have HBB := Lib.hid hB
      rw [hw1] at c0 c1 m2 HBK
      rw [hB] at m2 HBK
      have HBW := Lib.hid (show B < w1.heap.size by rw [← hw1, ← hB]; simp)
      have HM2 := Lib.hid m2
      rw [hN] at c0 hl
      have HN := Lib.hid hN
      have HC := Lib.hid (And.intro c0 c1)
      clear c0 c1 m2 hN hw1 hB
      go_enter Tryd.func54, Tryd.ntmps54
      go_upto_region 1 with (fail)
      rw [HW1.out]
      try rw [HBB.out]
      have m2 := HM2.out
      have c0 := HC.out.1
      go_wp2_with fail
      clear m2 c0
      go_loopw [6, 7] (fun s i wr => ∃ j c : Nat, j ≤ N ∧ c ≤ j ∧ i = .int .i64 (j : Int) ∧ s = .int .i64 (c : Int) ∧ Hid ((ρ.L.take j).countP (fun e => !e.gone) = c ∧ Keep (fun _ => False) w wr) ∧ Hid (w1 = wr)) (fun _ i _ => N + 1 - (RowKit.intOf i).toNat)
      case atStart => exact ⟨0, 0, by omega, by omega, rfl, rfl, V0, (by first | exact Lib.hid rfl | exact Lib.hid trivial)⟩
      case round =>
        obtain ⟨j, c, hj, hc, rfl, rfl, HV, HW⟩ := hrel
        obtain rfl := HW.out
        have c0 := HC.out.1
        by_cases hlt : j < N
        · have hb : decide (j < N) = true := by simpa using hlt
          have hjl : j < ρ.L.length := by rw [HN.out]; exact hlt
          obtain ⟨g, hA, _, hrows⟩ := (H.out.quiet HV.out.2).rows (by omega)
          have q11 := hrows j 11 hjl (by omega)
          have hfit := H.out.fits j hjl
          have e11 : (u.R.getD j RE.dflt).cells.getD 11 undef = .bool (ρ.at_ j).gone := by rw [← hfit.g]; rfl
          rw [e11] at q11
          rw [hA] at c0
          have hct := countP_take (p := fun e => !e.gone) hjl
          rw [HV.out.1] at hct
          have hct2 : (ρ.L.take (j + 1)).countP (fun e => !e.gone) = c + if !(ρ.at_ j).gone then 1 else 0 := hct
          obtain ⟨gg, hgg⟩ : ∃ gg, (ρ.at_ j).gone = gg := ⟨_, rfl⟩
          rw [hgg] at q11 hct2
          have HCT := Lib.hid hct2
          clear hjl hrows hfit e11 hct hct2 hgg hA
          cases gg with
          | true =>
            have HVN := Lib.hid (And.intro (show (ρ.L.take (j + 1)).countP (fun e => !e.gone) = c from HCT.out) HV.out.2)
            clear HCT
            go_wp2_with fail
            exact ⟨⟨j + 1, c, by omega, by omega, by go_num, by go_num, HVN, (by first | exact Lib.hid rfl | exact Lib.hid trivial)⟩, by simp [RowKit.intOf]; omega⟩
          | false =>
            have HVN := Lib.hid (And.intro (show (ρ.L.take (j + 1)).countP (fun e => !e.gone) = c + 1 from HCT.out) HV.out.2)
            clear HCT
            go_wp2_with fail
            exact ⟨⟨j + 1, c + 1, by omega, by omega, by go_num, by go_num, HVN, (by first | exact Lib.hid rfl | exact Lib.hid trivial)⟩, by simp [RowKit.intOf]; omega⟩
        · have hb : decide (j < N) = false := by simpa using hlt
          obtain rfl : j = N := by omega
          have hmany : ρ.many = c := by
            have := HV.out.1
            rwa [List.take_of_length_le (by rw [HN.out]; exact Nat.le_refl _)] at this
          by_cases h16 : 16 ≤ c
          · have hb6 : decide (16 ≤ c) = true := by simpa using h16
            have HRR := Lib.hid (show R = (0, 2, ρ) by rw [← HR.out, if_pos (by rw [hmany]; exact h16)])
            clear hmany
            go_wp2_with fail
            go_ret2
            rw [HRR.out]
            exact ⟨rfl, K0.out _ HV.out.2⟩
          · have hb6 : decide (16 ≤ c) = false := by simpa using h16
            have hRR := HR.out
            rw [if_neg (by rw [hmany]; exact h16), hL] at hRR
            obtain ⟨l, hll⟩ : ∃ l, lns L = l := ⟨_, rfl⟩
            have HLI := Lib.hid (rlines_any w1 L (by omega))
            have hlb : 1 ≤ l ∧ l ≤ 256 := by unfold lns at hll; omega
            have HBG' := Lib.hid (fun (p : Nat) (hp : ρ.abs.place L = some p) => by rw [← hL] at hp; have := HBG.out p hp (by omega); rwa [hL, hll] at this)
            have HBN' := Lib.hid (fun (hp : ρ.abs.place L = none) => by rw [← hL] at hp; have := HBN.out hp (by omega); rwa [hL, hll] at this)
            rw [hll] at HLI
            have K1 := Lib.hid HV.out.2
            have KW := Lib.hid (Keep.refl (fun _ => False) w1)
            have HT := Lib.hid (fun (W : World) (hk : Keep (fun _ => False) w1 W) (f : Nat) (hf : f ≤ 1000) => rtaken_any (H.out.quiet (Keep.trans K1.out hk)) f l hf (by omega))
            have m2 := HM2.out
            clear hmany HV
            cases hpl : ρ.abs.place L with
            | none =>
              rw [hpl] at hRR
              have HRR := Lib.hid hRR
              have HB2 := Lib.hid (HBN'.out hpl)
              clear hRR hpl HBG' HBN'
              go_wp2_with fail
              ((with_reducible refine HLI.out.mono ?_); rintro ee w' ⟨rfl, rfl⟩)
              go_wp2_with fail
              clear m2 c0
              go_loopw [9] (fun i wr => ∃ a : Nat, a ≤ 257 ∧ i = .int .i64 (a : Int) ∧ Hid (Keep (fun _ => False) w1 wr)) (fun i _ => 258 - (RowKit.intOf i).toNat)
              case atStart => exact ⟨0, by omega, rfl, KW⟩
              case round =>
                obtain ⟨a, ha, rfl, KK⟩ := hrel
                obtain ⟨wo, rfl⟩ : ∃ wo : World, wo = wr := ⟨_, rfl⟩
                by_cases hfit : a + l ≤ 256
                · have hbf : decide (a + l ≤ 256) = true := by simpa using hfit
                  have hcall := HT.out wo KK.out a (by omega)
                  rw [HB2.out a hfit] at hcall
                  have HCL := Lib.hid hcall
                  clear hcall
                  go_wp2_with fail
                  ((with_reducible refine HCL.out.mono ?_); rintro ee w' ⟨rfl, hk2⟩)
                  have KN := Lib.hid (Keep.trans KK.out hk2)
                  clear hk2
                  go_wp2_with fail
                  exact ⟨⟨a + 1, by omega, by go_num, KN⟩, by simp [RowKit.intOf]; omega⟩
                · have hbf : decide (a + l ≤ 256) = false := by simpa using hfit
                  have hbg : decide (256 < a + l) = true := by simp; omega
                  go_wp2_with fail
                  go_ret2
                  rw [← HRR.out]
                  exact ⟨rfl, K0.out _ (Keep.trans K1.out KK.out)⟩
            | some p =>
              rw [hpl] at hRR
              have HRR := Lib.hid hRR
              have HB2 := Lib.hid (HBG'.out p hpl)
              have hpb : p + l ≤ 256 := HB2.out.1
              clear hRR hpl HBG' HBN'
              go_wp2_with fail
              ((with_reducible refine HLI.out.mono ?_); rintro ee w' ⟨rfl, rfl⟩)
              go_wp2_with fail
              clear m2 c0
              go_loopw [9] (fun i wr => ∃ a : Nat, a ≤ p ∧ i = .int .i64 (a : Int) ∧ Hid (Keep (fun _ => False) w1 wr)) (fun i _ => 258 - (RowKit.intOf i).toNat)
              case atStart => exact ⟨0, by omega, rfl, KW⟩
              case round =>
                obtain ⟨a, ha, rfl, KK⟩ := hrel
                obtain ⟨wo, rfl⟩ : ∃ wo : World, wo = wr := ⟨_, rfl⟩
                have hbf : decide (a + l ≤ 256) = true := by simp; omega
                have hcall := HT.out wo KK.out a (by omega)
                by_cases hap : a < p
                · rw [HB2.out.2.2 a hap] at hcall
                  have HCL := Lib.hid hcall
                  clear hcall
                  go_wp2_with fail
                  ((with_reducible refine HCL.out.mono ?_); rintro ee w' ⟨rfl, hk2⟩)
                  have KN := Lib.hid (Keep.trans KK.out hk2)
                  clear hk2
                  go_wp2_with fail
                  exact ⟨⟨a + 1, by omega, by go_num, KN⟩, by simp [RowKit.intOf]; omega⟩
                · have hae : a = p := by omega
                  subst hae
                  rw [HB2.out.2.1] at hcall
                  have HCL := Lib.hid hcall
                  have hbg : decide (256 < a + l) = false := by simp; omega
                  clear hcall
                  go_wp2_with fail
                  ((with_reducible refine HCL.out.mono ?_); rintro ee w2 ⟨rfl, hk2⟩)
                  have KN := Lib.hid (Keep.trans KK.out hk2)
                  clear hk2
                  go_upto_region 17 with (fail)
                  have HD := Lib.hid (H.out.quiet (Keep.trans K1.out (Keep.trans KN.out (keep_draw _ w2))))
                  obtain ⟨i0, hi, hz0, hz1, hz2⟩ := info_parts RE.info
                  have HI := Lib.hid hi
                  have HZ0 := Lib.hid hz0
                  have HZ1 := Lib.hid hz1
                  have HZ2 := Lib.hid hz2
                  have HX13 := Lib.hid (show ∀ y ∈ [x0, x1, .string (sb b), x2, x3, x4, x5, x6, x7, .int .i64 (16 * (a : Int)), .bool false, .bool false, .slice none 0 0], y.oneCell' = true by
                    have hx := HX.out
                    rw [List.all_toArray, List.all_eq_true] at hx
                    intro y hy
                    simp only [List.mem_cons, List.not_mem_nil, or_false, forall_eq_or_imp, forall_eq] at hx
                    simp only [List.mem_cons, List.not_mem_nil, or_false] at hy
                    obtain ⟨a0, a1, a2, a3, a4, a5, a6, a7, a8⟩ := hx
                    rcases hy with rfl | rfl | rfl | rfl | rfl | rfl | rfl | rfl | rfl | rfl | rfl | rfl | rfl
                    · exact a0
                    · exact a1
                    · rfl
                    · exact a3
                    · exact a4
                    · exact a5
                    · exact a6
                    · exact a7
                    · exact a8
                    all_goals rfl)
                  have hrd := HD.out.row
                  rw [HN.out] at hrd
                  have HRW := Lib.hid hrd
                  have hqd := HD.out.hdr
                  rw [HN.out] at hqd
                  have HQD := Lib.hid hqd
                  have hbd := (KN.out.block B HBW.out id).trans HBK.out
                  have hbd2 : w2.drew.heap[B]? = _ := hbd
                  have HNE := Lib.hid (show ∀ k, (Value.slice u.A j u.ac).ownBlock = some k → k ≠ q from fun k e => blk_own_ne hqd hrd e (by decide))
                  have HNB := Lib.hid (show ∀ k, (Value.slice u.A j u.ac).ownBlock = some k → k ≠ B from fun k e => blk_own_ne hbd2 hrd e (by decide))
                  have HBD := Lib.hid hbd2
                  have HWR := Lib.hid (show IntKind.i64.wrap (16 * (a : Int)) = 16 * (a : Int) by rw [IntKind.wrap_i64]; omega)
                  have hc0d := HD.out.c0
                  rw [HN.out] at hc0d
                  have HC0D := Lib.hid hc0d
                  have HI4 := Lib.hid H.out.ok.cpus
                  clear hbd hbd2 hc0d
                  clear hi hz0 hz1 hz2 hrd hqd
                  refine wp_region_drewU (S := (fun w' => Hid (Keep (fun i => (Value.slice u.A j u.ac).ownBlock = some i) w2.drew w'))) (D := [11, 12, 13]) (by kernel_rfl) (by exact Lib.hid (Keep.refl _ _)) (fun hH => ?_)
                  refine wpAnyU_take (i := 0) (v := ?_) rfl (by kernel_rfl) (by kernel_rfl) (by kernel_rfl) (by kernel_rfl) (fun _ _ _ h => h) (Or.inl ⟨by rfl, ?_⟩) hH ?_
                  rotate_left
                  · (intro w'' hSw; (try dsimp only at hSw); go_simp; try with_reducible rfl)
                  change wpAnyU _ _ _ _ _ _ _ _ (Act.put _ (some 62) _) _
                  try simp only [Act.put, List.setIfInBounds_toArray, List.set_cons_zero, List.set_cons_succ]
                  refine wpAnyU_take (i := 1) (v := ?_) rfl (by kernel_rfl) (by kernel_rfl) (by kernel_rfl) (by kernel_rfl) (fun _ _ _ h => h) (Or.inl ⟨by rfl, ?_⟩) hH ?_
                  rotate_left
                  · (intro w'' hSw; (try dsimp only at hSw); go_simp; try with_reducible rfl)
                  change wpAnyU _ _ _ _ _ _ _ _ (Act.put _ (some 63) _) _
                  try simp only [Act.put, List.setIfInBounds_toArray, List.set_cons_zero, List.set_cons_succ]
                  refine wpAnyU_take (i := 2) (v := ?_) rfl (by kernel_rfl) (by kernel_rfl) (by kernel_rfl) (by kernel_rfl) (fun _ _ _ h => h) (Or.inl ⟨by rfl, ?_⟩) hH ?_
                  rotate_left
                  · (intro w'' hSw; (try dsimp only at hSw); go_simp; try with_reducible rfl)
                  change wpAnyU _ _ _ _ _ _ _ _ (Act.put _ (some 64) _) _
                  try simp only [Act.put, List.setIfInBounds_toArray, List.set_cons_zero, List.set_cons_succ]
                  refine wpAnyU_take (i := 3) (v := ?_) rfl (by kernel_rfl) (by kernel_rfl) (by kernel_rfl) (by kernel_rfl) (fun _ _ _ h => h) (Or.inl ⟨by rfl, ?_⟩) hH ?_
                  rotate_left
                  · (intro w'' hSw; (try dsimp only at hSw); go_simp; try with_reducible rfl)
                  change wpAnyU _ _ _ _ _ _ _ _ (Act.put _ (some 65) _) _
                  try simp only [Act.put, List.setIfInBounds_toArray, List.set_cons_zero, List.set_cons_succ]
                  refine wpAnyU_take (i := 4) (v := ?_) rfl (by kernel_rfl) (by kernel_rfl) (by kernel_rfl) (by kernel_rfl) (fun _ _ _ h => h) (Or.inl ⟨by rfl, ?_⟩) hH ?_
                  rotate_left
                  · (intro w'' hSw; have q := cell_kept hSw.out HC0D.out (fun e => HNE.out _ e rfl); go_simp; try with_reducible rfl)
                  change wpAnyU _ _ _ _ _ _ _ _ (Act.put _ (some 66) _) _
                  try simp only [Act.put, List.setIfInBounds_toArray, List.set_cons_zero, List.set_cons_succ]
                  refine wpAnyU_take (i := 5) (v := ?_) rfl (by kernel_rfl) (by kernel_rfl) (by kernel_rfl) (by kernel_rfl) (fun _ _ _ h => h) (Or.inl ⟨by rfl, ?_⟩) hH ?_
                  rotate_left
                  · (intro w'' hSw; have hb := (hSw.out.block B (blk_lt HBD.out) (fun e => HNB.out _ e rfl)).trans HBD.out; have z0 : w''.cell? ⟨B, 0, none⟩ = some (x0) := (blk_cell hb 0).trans rfl; have z1 : w''.cell? ⟨B, 1, none⟩ = some (x1) := (blk_cell hb 1).trans rfl; have z2 : w''.cell? ⟨B, 2, none⟩ = some (.string (sb b)) := (blk_cell hb 2).trans rfl; have z3 : w''.cell? ⟨B, 3, none⟩ = some (x2) := (blk_cell hb 3).trans rfl; have z4 : w''.cell? ⟨B, 4, none⟩ = some (x3) := (blk_cell hb 4).trans rfl; have z5 : w''.cell? ⟨B, 5, none⟩ = some (x4) := (blk_cell hb 5).trans rfl; have z6 : w''.cell? ⟨B, 6, none⟩ = some (x5) := (blk_cell hb 6).trans rfl; have z7 : w''.cell? ⟨B, 7, none⟩ = some (x6) := (blk_cell hb 7).trans rfl; have z8 : w''.cell? ⟨B, 8, none⟩ = some (x7) := (blk_cell hb 8).trans rfl; clear hb; go_simp; try with_reducible rfl)
                  change wpAnyU _ _ _ _ _ _ _ _ (Act.put _ (some 67) _) _
                  try simp only [Act.put, List.setIfInBounds_toArray, List.set_cons_zero, List.set_cons_succ]
                  refine wpAnyU_take (i := 6) (v := ?_) rfl (by kernel_rfl) (by kernel_rfl) (by kernel_rfl) (by kernel_rfl) (fun _ _ _ h => h) (Or.inl ⟨by rfl, ?_⟩) hH ?_
                  rotate_left
                  · (intro w'' hSw; (try dsimp only at hSw); go_simp; try with_reducible rfl)
                  change wpAnyU _ _ _ _ _ _ _ _ (Act.put _ (some 68) _) _
                  try simp only [Act.put, List.setIfInBounds_toArray, List.set_cons_zero, List.set_cons_succ]
                  refine wpAnyU_take (i := 7) (v := ?_) rfl (by kernel_rfl) (by kernel_rfl) (by kernel_rfl) (by kernel_rfl) (fun _ _ _ h => h) (Or.inl ⟨by rfl, ?_⟩) hH ?_
                  rotate_left
                  · (intro w'' hSw; have q := HWR.out; go_simp; try with_reducible rfl)
                  change wpAnyU _ _ _ _ _ _ _ _ (Act.put _ (some 69) _) _
                  try simp only [Act.put, List.setIfInBounds_toArray, List.set_cons_zero, List.set_cons_succ]
                  refine wpAnyU_take (i := 8) (v := ?_) rfl (by kernel_rfl) (by kernel_rfl) (by kernel_rfl) (by kernel_rfl) (fun _ _ _ h => h) (Or.inl ⟨by rfl, ?_⟩) hH ?_
                  rotate_left
                  · (intro w'' hSw; (try dsimp only at hSw); go_simp; try with_reducible rfl)
                  change wpAnyU _ _ _ _ _ _ _ _ (Act.put _ (some 70) _) _
                  try simp only [Act.put, List.setIfInBounds_toArray, List.set_cons_zero, List.set_cons_succ]
                  refine wpAnyU_ready (rs := [9]) (by kernel_rfl) (by simp) ?_
                  refine AllReadyU.cons rfl (fun Kn hKn => ?_) AllReadyU.nil
                  go_simp
                  refine hKn.out _ _ ?_ (fun hH => ?_)
                  · (exact Lib.hid (Keep.trans hH.out (Keep.mono ((Keep.refl (fun _ => False) _).alloc' _) (fun _ => False.elim))))
                  clear hKn Kn
                  try simp only [Act.put, List.setIfInBounds_toArray, List.set_cons_zero, List.set_cons_succ]
                  refine wpAnyU_ready (rs := [10]) (by kernel_rfl) (by simp) ?_
                  refine AllReadyU.cons rfl (fun Kn hKn => ?_) AllReadyU.nil
                  refine wp_append_lies _ (.tmp 66) (.tmp 71) 33 rfl 0 76 i0 _ 13 184 Tryd.underlying33 HI.out HZ0.out HZ1.out HZ2.out rfl (by decide) (.slice u.A j u.ac) j (rowR u.R) rfl (HRW.out.alloc _) ⟨_, 0, none⟩ 1 1 _ rfl rfl (by exact World.news_of_block (heap_alloc_new _ _)) (by exact HX13.out) (by omega) (by unfold maxLen; omega) (by omega) (Nat.zero_le _) _ rfl ?_
                  intro g cap w4 hown hgrow hat hlt
                  have HOWN := Lib.hid hown
                  have HAT := Lib.hid hat
                  have HK4 := Lib.hid (Keep.trans (Keep.mono ((Keep.refl (fun _ => False) w2.drew).alloc' _) (fun _ => False.elim)) (own_keep' hgrow))
                  have HQ4 := Lib.hid ((HK4.out.block q (blk_lt HQD.out) (fun e => HNE.out _ e rfl)).trans HQD.out)
                  clear hown hgrow hat hlt
                  refine hKn.out _ _ ?_ (fun hH => ?_)
                  · (exact HK4)
                  clear hKn Kn
                  try simp only [Act.put, List.setIfInBounds_toArray, List.set_cons_zero, List.set_cons_succ]
                  refine wpAnyU_pure (i := 11) (v := ?_) rfl (by kernel_rfl) (by kernel_rfl) (by kernel_rfl) (by rfl) (fun _ _ _ h => h) (Or.inl ⟨by rfl, ?_⟩) ?_
                  rotate_left
                  · (intro w'' _; go_simp; try with_reducible rfl)
                  change wpAnyU _ _ _ _ _ _ _ _ (Act.put _ (some 73) _) _
                  try simp only [Act.put, List.setIfInBounds_toArray, List.set_cons_zero, List.set_cons_succ]
                  refine wpAnyU_pure (i := 12) (v := ?_) rfl (by kernel_rfl) (by kernel_rfl) (by kernel_rfl) (by rfl) (fun _ _ _ h => h) (Or.inl ⟨by rfl, ?_⟩) ?_
                  rotate_left
                  · (intro w'' _; go_simp; try with_reducible rfl)
                  change wpAnyU _ _ _ _ _ _ _ _ (Act.put _ (some 74) _) _
                  try simp only [Act.put, List.setIfInBounds_toArray, List.set_cons_zero, List.set_cons_succ]
                  refine wpAnyU_ready (rs := [13]) (by kernel_rfl) (by simp) ?_
                  refine AllReadyU.last rfl (by rfl) (fun Kn hKn => ?_) AllReadyU.nil
                  go_simp
                  have q0 := (blk_cell HQ4.out 0).trans rfl
                  have f0 := blk_free HQ4.out 0
                  go_simp
                  refine hKn.out _ _ ?_
                  clear hKn Kn
                  try simp only [Act.put, List.setIfInBounds_toArray, List.set_cons_zero, List.set_cons_succ]
                  refine wpAnyU_done (by kernel_rfl) ?_ _
                  have HO := Lib.hid (rowe_any (w4.setCell ⟨q, 0, none⟩ (.slice (some ⟨g, 0, none⟩) (j + 1) cap)) (q := q) (g := g) (n := j + 1) (c := cap) (m := ρ.inn.length) (I := u.I) (ic := u.ic) (k := j) (by exact blk_set HQ4.out 0 (.slice (some ⟨g, 0, none⟩) (j + 1) cap)) ((keep_set (Keep.refl (fun i => i = q) w4) 0 (.slice (some ⟨g, 0, none⟩) (j + 1) cap)).own HOWN.out (fun i e => by
                    obtain ⟨cur, hc⟩ := own_type HOWN.out e
                    exact fun e2 => cells_ne HQ4.out hc (by decide) e2.symm)) (by omega) (by omega) HI4.out.2)
                  go_wp2_with fail
                  ((with_reducible refine HO.out.mono ?_); rintro ee w6 ⟨rfl, v, ho, hv⟩)
                  have d0 := ho.c0
                  have HFIN := Lib.hid (show ∃ u', IsRef n w6 q u' (ρ.added b a) ∧ Keep (u.foot q) w w6 ∧ ∀ i, u'.foot q i → u.foot q i ∨ w.heap.size ≤ i from by
                    have hNj := HN.out
                    subst hNj
                    have hkw := Keep.trans K1.out (Keep.trans KN.out (keep_draw _ w2))
                    have e16 : (16 : Int) * (a : Int) = ((16 * a : Nat) : Int) := by omega
                    rw [e16] at ho
                    refine H.out.grown (p := a) (x := ⟨x0, x1, x2, x3, x4, x5, x6, x7, HXO.out⟩) (w1 := w4.setCell ⟨q, 0, none⟩ (.slice (some ⟨g, 0, none⟩) (ρ.L.length + 1) cap)) (g := g) (by omega) (by rw [hL, hll]; exact hpb) (by omega) HX.out ?_ ?_ ho hv
                    · exact Keep.trans (Keep.trans (Keep.mono hkw (fun _ => False.elim)) (Keep.mono HK4.out (fun i e => .inr e))) (Keep.mono (keep_set (Keep.refl (fun i => i = q) w4) 0 _) (fun i e => .inl e))
                    · rcases HAT.out with e | e
                      · exact .inl e
                      · refine .inr ?_
                        have := hkw.size
                        rw [e]
                        simp at this ⊢
                        omega)
                  clear ho hv
                  go_wp2_with fail
                  go_ret2
                  rw [← HRR.out]
                  refine ⟨?_, HFIN.out⟩
                  have hNj := HN.out
                  subst hNj
                  simp
end Go.Proofs.YtnhajhejkecihaaDoor
/- Install: the reference's New, Live. -/
namespace Go.Proofs.YtnhajhejkecihaaDoor
open Go.RowKit Go.Lib
set_option linter.unusedVariables false
set_option linter.unusedSimpArgs false

def RS.new (c : Nat) : RS := ⟨List.replicate c (-1), []⟩
theorem RS.new_abs (c : Nat) : (RS.new c).abs = MS.new c := rfl
theorem RS.new_ok {c : Nat} (hc : 1 ≤ c ∧ c ≤ 4) : (RS.new c).Ok := by
  refine ⟨fun i hi => absurd hi (by simp [RS.new]), fun e he => absurd he (by simp [RS.new]), fun e he => absurd he (by simp [RS.new]), by simpa [RS.new] using hc, fun v hv => ?_, by simp [RS.new]⟩
  obtain ⟨_, rfl⟩ := List.mem_replicate.1 hv
  simp [RS.new]
theorem Tryd.intsTy : OneTy Tryd.prog 29 3 (.int .i64 0) 8 := ⟨Tryd.underlying29, by kernel_rfl, rfl⟩
structure NW (w : World) (q : Nat) (A : Option Addr) (j cc : Nat) (W : World) : Prop where
  hdr : W.heap[q]? = some (.cells #[.slice none 0 0, .slice A j cc] 35 (0, 0))
  own : W.ownsRow w.heap.size 3 1 (.slice A j cc) j (ints (List.replicate j (-1)))
  since : Since w.heap.size w W
  low : w.heap.size ≤ q
set_option maxRecDepth 100000 in
set_option maxHeartbeats 2000000 in
theorem rnew_any (w : World) (c : Nat) (hc : 1 ≤ c ∧ c ≤ 4) : Calls Tryd.prog 24 #[.int .i64 c] w fun e w' => ∃ q u, e = .returned (.tuple #[.pointer (some ⟨q, 0, none⟩), .int .i64 0]) ∧ IsRef w.heap.size w' q u (RS.new c) ∧ Since w.heap.size w w' := by
  have hb1 : decide (c < 1) = false := by simp; omega
  have hb2 : decide (4 < c) = false := by simp; omega
  have V0 := Lib.hid (show NW w w.heap.size none 0 0 (w.alloc (.cells #[.slice none 0 0, .slice none 0 0] 35)) from
    ⟨heap_alloc_new _ _, World.ownsRow_nil _ _ _ _, Since.of ((Keep.refl (fun _ => False) w).alloc' _), Nat.le_refl _⟩)
  go_enter Tryd.func24, Tryd.ntmps24
  go_wp2_with fail
  obtain ⟨W0, hW⟩ : ∃ W0, w.alloc (.cells #[.slice none 0 0, .slice none 0 0] 35) = W0 := ⟨_, rfl⟩
  obtain ⟨q, hq⟩ : ∃ q, w.heap.size = q := ⟨_, rfl⟩
  have V1 : Hid (NW w q none 0 0 W0) := Lib.hid (by rw [← hq, ← hW]; exact V0.out)
  rw [hW]
  try rw [hq]
  clear V0 hW hq
  go_loopw [5] (fun i wr => ∃ j : Nat, j ≤ c ∧ i = .int .i64 (j : Int) ∧ ∃ A cc, Hid (NW w q A j cc wr)) (fun i _ => c + 1 - (RowKit.intOf i).toNat)
  case atStart => exact ⟨0, Nat.zero_le _, rfl, none, 0, V1⟩
  case round =>
    obtain ⟨j, hj, rfl, A, cc, VV⟩ := hrel
    obtain ⟨wo, rfl⟩ : ∃ wo : World, wo = wr := ⟨_, rfl⟩
    clear V1
    by_cases hlt : j < c
    · have hb : decide (j < c) = true := by simpa using hlt
      have q1 : wo.cell? ⟨q, 1, none⟩ = some (.slice A j cc) := (blk_cell VV.out.hdr 1).trans rfl
      go_wp2_with (at_builtin; refine wpList_append_src 29 3 (.int .i64 0) 8 w.heap.size Tryd.intsTy _ _ rfl rfl (.slice A j cc) j (ints (List.replicate j (-1))) rfl (by exact VV.out.own.alloc _) _ 1 1 (ints [-1]) rfl (by intro h; cases h) (cells_new _ _ _) (ints_one _) (by omega) (by decide) (by have := VV.out.since.size; simp; omega) ?_)
      intro v' w2 hown hgrow hnil hob
      obtain ⟨A', c', rfl⟩ := own_slice hown
      have hk2 : Keep (fun i => (Value.slice A j cc).ownBlock = some i) wo w2 := Keep.trans (Keep.mono ((Keep.refl (fun _ => False) wo).alloc' _) (fun _ => False.elim)) (own_keep' hgrow)
      have hq2 := (hk2.block q (blk_lt VV.out.hdr) (fun e => blk_own_ne VV.out.hdr VV.out.own e (by decide) rfl)).trans VV.out.hdr
      have q1' : w2.cell? ⟨q, 1, none⟩ = some (.slice A j cc) := (blk_cell hq2 1).trans rfl
      have f1 := blk_free hq2 1
      rw [← ints_append, show List.replicate j (-1 : Int) ++ [-1] = List.replicate (j + 1) (-1) from (List.replicate_succ').symm] at hown
      have VN := Lib.hid (show NW w q A' (j + 1) c' (w2.setCell ⟨q, 1, none⟩ (.slice A' (j + 1) c')) from
        ⟨blk_set hq2 1 _, (keep_set (Keep.refl (fun i => i = q) w2) 1 _).own hown (fun b e => by
          obtain ⟨cur, hcur⟩ := own_type hown e
          exact fun e2 => cells_ne hq2 hcur (by decide) e2.symm), Keep.trans (Keep.trans VV.out.since (Keep.mono hk2 (fun i e => own_low VV.out.own e))) (Keep.mono (keep_set (Keep.refl (fun i => i = q) w2) 1 _) (fun i e => by rw [e]; exact VV.out.low)), VV.out.low⟩)
      clear hown hgrow hnil hob hk2 hq2 q1
      go_wp2_with fail
      exact ⟨⟨j + 1, by omega, by go_num, A', c', VN⟩, by simp [RowKit.intOf]; omega⟩
    · have hb : decide (j < c) = false := by simpa using hlt
      obtain rfl : j = c := by omega
      go_wp2_with fail
      go_ret2
      have hrl : (RS.new j).inn.length = j := by simp [RS.new]
      refine ⟨q, ⟨none, 0, A, cc, []⟩, rfl, ⟨?_, World.ownsRow_nil _ _ _ _, ?_, fun i hi => absurd hi (by simp [RS.new]), fun i k _ hk => absurd hk (by simp [RS.new]), ?_, RS.new_ok hc⟩, VV.out.since⟩
      · rw [hrl]; exact VV.out.hdr
      · rw [hrl]; exact own_zero VV.out.own
      · rintro k (rfl | ⟨a, h1, _⟩ | h1 | ⟨r, hr, _⟩)
        · exact VV.out.low
        · cases h1
        · exact own_low VV.out.own (ob_slice.2 h1)
        · cases hr
def liveTo (ρ : RS) (k : Nat) : List Int := ((ρ.L.take k).filter ME.lives).map fun e => (e.id : Int)
theorem liveTo_succ {ρ : RS} (h : ρ.Ok) {k : Nat} (hk : k < ρ.L.length) : liveTo ρ (k + 1) = liveTo ρ k ++ if (ρ.at_ k).lives then [(k : Int)] else [] := by
  unfold liveTo
  have e : ρ.L[k] = ρ.at_ k := by unfold RS.at_; rw [List.getD_eq_getElem?_getD, List.getElem?_eq_getElem hk]; rfl
  rw [List.take_succ_eq_append_getElem hk, List.filter_append, List.map_append, e]
  congr 1
  cases hl : (ρ.at_ k).lives with
  | true => simp [List.filter_cons, hl, h.ids k hk]
  | false => simp [List.filter_cons, hl]
set_option maxRecDepth 100000 in
set_option maxHeartbeats 4000000 in
theorem rlive_any {n : Nat} {w : World} {q : Nat} {u : RR} {ρ : RS} (h : IsRef n w q u ρ) :
    Calls Tryd.prog 12 #[.pointer (some ⟨q, 0, none⟩)] w fun e w' => (∃ A c, e = .returned (.slice A (liveL ρ.abs.all).length c) ∧ w'.ownsRow w.heap.size 3 1 (.slice A (liveL ρ.abs.all).length c) (liveL ρ.abs.all).length (ints (liveL ρ.abs.all))) ∧ Since w.heap.size w w' := by
  have hfin : liveL ρ.abs.all = liveTo ρ ρ.L.length := by rw [RS.live_abs]; unfold liveTo; rw [List.take_length]
  rw [hfin]
  obtain ⟨N, hN⟩ : ∃ N, ρ.L.length = N := ⟨_, rfl⟩
  have hlen := h.ok.len
  rw [hN] at hlen ⊢
  have HN := Lib.hid hN
  have H := Lib.hid h
  have hcp := h.ok.cpus
  have V0 := Lib.hid (show w.ownsRow w.heap.size 3 1 (.slice none 0 0) 0 (ints (liveTo ρ 0)) ∧ Since w.heap.size w w from ⟨World.ownsRow_nil _ _ _ _, Keep.refl _ _⟩)
  clear h hN hfin
  go_enter Tryd.func12, Tryd.ntmps12
  go_wp2_with fail
  go_loopw [3, 4] (fun s i wr => ∃ k m : Nat, k ≤ N ∧ m ≤ k ∧ i = .int .i64 (k : Int) ∧ ∃ A cc, s = .slice A m cc ∧ Hid (wr.ownsRow w.heap.size 3 1 (.slice A m cc) m (ints (liveTo ρ k)) ∧ Since w.heap.size w wr)) (fun _ i _ => N + 1 - (RowKit.intOf i).toNat)
  case atStart => exact ⟨0, 0, by omega, by omega, rfl, none, 0, rfl, V0⟩
  case round =>
    obtain ⟨k, m, hk, hm, rfl, A, cc, rfl, VV⟩ := hrel
    obtain ⟨wo, rfl⟩ : ∃ wo : World, wo = wr := ⟨_, rfl⟩
    clear V0
    have HR := Lib.hid (H.out.since VV.out.2)
    have c0 := HR.out.c0
    rw [HN.out] at c0
    by_cases hlt : k < N
    · have hb : decide (k < N) = true := by simpa using hlt
      have hkl : k < ρ.L.length := by rw [HN.out]; exact hlt
      obtain ⟨g, hA, _, hrows⟩ := HR.out.rows (by omega)
      have hfit := HR.out.fits k hkl
      have hol := HR.out.ok.owed _ (RS.at_mem hkl)
      obtain ⟨o, oc, hv, _, hoc⟩ := hfit.owes (by omega)
      have q10 := hrows k 10 hkl (by omega)
      have q12 := hrows k 12 hkl (by omega)
      obtain ⟨e, he⟩ : ∃ e, ρ.at_ k = e := ⟨_, rfl⟩
      have e10 : (u.R.getD k RE.dflt).cells.getD 10 undef = .bool e.dropped := by rw [← he, ← hfit.d]; rfl
      have e12 : (u.R.getD k RE.dflt).cells.getD 12 undef = .slice (some ⟨o, 0, none⟩) e.owed.length oc := by rw [← he]; exact hv
      rw [e10] at q10
      rw [e12] at q12
      rw [hA] at c0
      rw [he] at hoc hol
      have hsm := rsome_any wo o e.owed.length oc e.owed rfl (by omega) hoc
      have hst := liveTo_succ H.out.ok hkl
      rw [he] at hst
      have hlv : e.lives = (!e.dropped && !e.owed.any (·)) := by rw [some_free]; unfold ME.lives; simp
      rw [hlv] at hst
      obtain ⟨M, hM⟩ : ∃ M, e.owed.length = M := ⟨_, rfl⟩
      obtain ⟨dd, hdd⟩ : ∃ dd, e.dropped = dd := ⟨_, rfl⟩
      obtain ⟨sv, hsv⟩ : ∃ sv, e.owed.any (·) = sv := ⟨_, rfl⟩
      rw [hdd] at q10 hst
      rw [hM] at q12 hsm
      rw [hsv] at hsm hst
      have HS := Lib.hid hsm
      have HST := Lib.hid hst
      have hso := VV.out.2.size
      clear hkl hrows hfit hol hv hoc e10 e12 he hsm hst hlv hM hdd hsv hA hcp
      cases dd with
      | true =>
        have HVN := Lib.hid (And.intro (show wo.ownsRow w.heap.size 3 1 (.slice A m cc) m (ints (liveTo ρ (k + 1))) from by rw [HST.out]; simpa using VV.out.1) VV.out.2)
        clear HST
        go_wp2_with fail
        exact ⟨⟨k + 1, m, by omega, by omega, by go_num, A, cc, by go_num, HVN⟩, by simp [RowKit.intOf]; omega⟩
      | false =>
        cases sv with
        | true =>
          have HVN := Lib.hid (And.intro (show wo.ownsRow w.heap.size 3 1 (.slice A m cc) m (ints (liveTo ρ (k + 1))) from by rw [HST.out]; simpa using VV.out.1) VV.out.2)
          clear HST
          go_wp2_with fail
          ((with_reducible refine HS.out.mono ?_); rintro ee w' ⟨rfl, rfl⟩)
          go_wp2_with fail
          exact ⟨⟨k + 1, m, by omega, by omega, by go_num, A, cc, by go_num, HVN⟩, by simp [RowKit.intOf]; omega⟩
        | false =>
          go_wp2_with fail
          ((with_reducible refine HS.out.mono ?_); rintro ee w' ⟨rfl, rfl⟩)
          clear HS
          go_wp2_with (at_builtin; refine wpList_append_src 29 3 (.int .i64 0) 8 w.heap.size Tryd.intsTy _ _ rfl rfl (.slice A m cc) m (ints (liveTo ρ k)) rfl (by exact VV.out.1.alloc _) _ 1 1 (ints [(k : Int)]) rfl (by intro h; cases h) (cells_new _ _ _) (ints_one _) (by omega) (by decide) (by simp; omega) ?_)
          intro v' w2 hown hgrow hnil hob
          obtain ⟨A', c', rfl⟩ := own_slice hown
          have hk2 : Keep (fun i => (Value.slice A m cc).ownBlock = some i) wo w2 := Keep.trans (Keep.mono ((Keep.refl (fun _ => False) wo).alloc' _) (fun _ => False.elim)) (own_keep' hgrow)
          rw [← ints_append, show liveTo ρ k ++ [(k : Int)] = liveTo ρ (k + 1) from by rw [HST.out]; rfl] at hown
          have HVN := Lib.hid (And.intro hown (Keep.trans VV.out.2 (Keep.mono hk2 (fun i e => own_low VV.out.1 e))))
          clear hown hgrow hnil hob hk2 HST
          go_wp2_with fail
          exact ⟨⟨k + 1, m + 1, by omega, by omega, by go_num, A', c', by go_num, HVN⟩, by simp [RowKit.intOf]; omega⟩
    · have hb : decide (k < N) = false := by simpa using hlt
      obtain rfl : k = N := by omega
      have hml : m = (liveTo ρ k).length := by have := VV.out.1.1; rw [ints_length] at this; omega
      have HM := Lib.hid hml
      clear hml
      go_wp2_with fail
      go_ret
      have hm := HM.out
      subst hm
      exact ⟨⟨A, cc, rfl, VV.out.1⟩, VV.out.2⟩
end Go.Proofs.YtnhajhejkecihaaDoor
/- Mod of facsimileref04. -/
namespace Go.Proofs.YtnhajhejkecihaaDoor
open Go.RowKit
set_option linter.unusedVariables false

theorem mod_any (w : World) (n m : Int) (hm : 0 < m) (hm2 : m ≤ 1000000000000) (hn : -9223372036854775808 ≤ n ∧ n ≤ 9223372036854775807) :
    Calls Tryd.prog 46 #[.int .i64 n, .int .i64 m] w fun e w' => e = .returned (.int .i64 (n % m)) ∧ w = w' := by
  have h1 : n.tmod m < m := Int.tmod_lt_of_pos n hm
  have h2 : -m < n.tmod m := Int.lt_tmod_of_pos n hm
  have hw1 : IntKind.i64.wrap (n.tmod m) = n.tmod m := by rw [IntKind.wrap_i64]; omega
  have hw2 : IntKind.i64.wrap (n.tmod m + m) = n.tmod m + m := by rw [IntKind.wrap_i64]; omega
  have h3 : (n.tmod m) % m = n % m := by
    have := Int.tmod_add_mul_tdiv n m
    conv => rhs; rw [← this]
    rw [Int.add_mul_emod_self_left]
  have hres : (n.tmod m < 0 → n.tmod m + m = n % m) ∧ (0 ≤ n.tmod m → n.tmod m = n % m) := by
    refine ⟨fun h => ?_, fun h => ?_⟩
    · rw [← h3, ← Int.add_emod_right, Int.emod_eq_of_lt (by omega) (by omega)]
    · rw [← h3, Int.emod_eq_of_lt (by omega) (by omega)]
  obtain ⟨t, ht⟩ : ∃ t, n.tmod m = t := ⟨_, rfl⟩
  obtain ⟨r, hr⟩ : ∃ r, n % m = r := ⟨_, rfl⟩
  rw [hr]
  rw [ht] at h1 h2 hw1 hw2 h3
  rw [ht, hr] at hres
  have H := Lib.hid hres
  clear h3 hr hres
  by_cases h0 : t < 0
  · have hb : decide (t < 0) = true := by simpa using h0
    go_enter Tryd.func46, Tryd.ntmps46
    go_wp2_with fail
    go_ret
    exact ⟨by rw [← H.out.1 h0]; rfl, rfl⟩
  · have hb : decide (t < 0) = false := by simpa using h0
    go_enter Tryd.func46, Tryd.ntmps46
    go_wp2_with fail
    go_ret
    exact ⟨by rw [← H.out.2 (by omega)]; rfl, rfl⟩
end Go.Proofs.YtnhajhejkecihaaDoor
