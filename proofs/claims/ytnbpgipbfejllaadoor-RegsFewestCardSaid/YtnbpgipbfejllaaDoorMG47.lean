/- graph: right exits (the reference's). -/
import Derived.Test.YtnbpgipbfejllaaDoorMG40
namespace Go.Proofs.YtnbpgipbfejllaaDoor
open Go.RowKit Go.Lib
set_option linter.unusedVariables false
set_option linter.unusedSimpArgs false

theorem Shape.not17 {T : TR} {P k : Nat} {x : TI} (h : Shape T P k x) : (x.op == 17) = false := by cases h <;> rfl
def flatF (F : List RF) : List Int := (F.map (·.x.vars)).flatten
theorem flatF_succ (F : List RF) (j : Nat) (h : j < F.length) : flatF (F.take (j + 1)) = flatF (F.take j) ++ (F.getD j RF.dflt).x.vars := by
  unfold flatF
  rw [List.take_add_one, List.getElem?_eq_getElem h, List.getD_eq_getElem?_getD, List.getElem?_eq_getElem h, Option.toList_some, List.map_append, List.flatten_append, List.map_singleton]
  show _ ++ ([_] : List (List Int)).flatten = _ ++ _
  rw [List.flatten_singleton]
  rfl
theorem flatF_len (F : List RF) (h : ∀ f ∈ F, f.x.vars.length ≤ 24) : (flatF F).length ≤ F.length * 24 := by
  induction F with
  | nil => simp [flatF]
  | cons f F ih =>
    have h1 := h f (.head _)
    have h2 := ih (fun f hf => h f (.tail _ hf))
    unfold flatF at h2 ⊢
    simp only [List.map_cons, List.flatten_cons, List.length_append, List.length_cons]
    omega
theorem RX.Fits.frm {w : World} {r : RX} (h : r.Fits w) {k : Nat} (hk : k < r.F.length) : ∃ g o, r.A = some ⟨g, o, none⟩ ∧ (∀ i, i < 3 → w.cell? ⟨g, o + k * 3 + i, none⟩ = some ((r.F.getD k RF.dflt).cells.getD i undef)) ∧ IntsAt w (r.F.getD k RF.dflt).A (r.F.getD k RF.dflt).x.vars.length (r.F.getD k RF.dflt).x.vars := by
  obtain ⟨g, o, e, _, hc⟩ := h.1.1.2.2 (by omega)
  refine ⟨g, o, e, fun i hi => ?_, (h.2.1 _ (getD_mem hk)).1⟩
  have h1 := hc (k * 3 + i) (by omega)
  rw [← Nat.add_assoc] at h1
  rw [h1, List.getD_eq_getElem?_getD, rowG_at RF.cells_length RF.dflt r.F k i hk hi]
  rfl
section
variable {w w' : World} {A : Option Addr} {ca : Nat} {E : Option Addr} {ce : Nat} {R : List RI} {X : List RX} {T : TR}
set_option maxRecDepth 100000 in
set_option maxHeartbeats 4000000 in
theorem rexit_any {P : Nat} (h : TA w A ca E ce R X T) (hr : RightT P T) {k : Nat} (hk : k < T.ins.length) (r : RX) (hf : r.Fits w) (he : ExOK T k r.x) :
    Calls Tryd.prog 87 #[trV A ca E ce T, .agg r.cells.toArray, .int .i64 (k : Int)] w fun e w' => e = .returned (.bool true) ∧ Since w.heap.size w w' := by
  have HR := Lib.hid hr
  have HF := Lib.hid hf
  have hlen : r.F.length = r.x.frames.length := by rw [← hf.2.2, List.length_map]
  have HEV := Lib.hid (show ∀ f ∈ r.F, (0 ≤ f.x.fn ∧ 0 ≤ f.x.ln ∧ f.x.vars.length ≤ 24) from fun f hm => by
    have h9 := he.each f.x (by rw [← hf.2.2]; exact List.mem_map_of_mem hm)
    exact ⟨h9.1, h9.2.1, h9.2.2.1⟩)
  have HNM := Lib.hid (show ∀ v ∈ flatF r.F, Named T k v from fun v hv => by
    obtain ⟨l, hl, hvl⟩ := List.mem_flatten.1 hv
    obtain ⟨f, hf2, rfl⟩ := List.mem_map.1 hl
    exact (he.each f.x (by rw [← hf.2.2]; exact List.mem_map_of_mem hf2)).2.2.2 v hvl)
  have hN2 := he.many
  rw [← hlen] at hN2
  have hbk := he.back
  have HKN := Lib.hid hk
  have hfew := hr.few
  obtain ⟨x, A2, c2, F⟩ := r
  obtain ⟨frs, back⟩ := x
  unfold RX.cells trV
  dsimp only at hN2 hbk HNM HEV ⊢
  obtain ⟨M, hM⟩ : ∃ M, F.length = M := ⟨_, rfl⟩
  obtain ⟨N, hN⟩ : ∃ N, T.ins.length = N := ⟨_, rfl⟩
  obtain ⟨M2, hM2⟩ : ∃ M2, T.exits.length = M2 := ⟨_, rfl⟩
  have HFL := Lib.hid (show ∀ j, (flatF (F.take j)).length ≤ 48 from fun j => by
    have h1 := flatF_len (F.take j) (fun f hm => (HEV.out f (List.mem_of_mem_take hm)).2.2)
    rw [List.length_take] at h1
    have : min j F.length ≤ 2 := by omega
    omega)
  have HK := Lib.hid (((Keep.refl (fun _ => False) w).alloc' (.cells #[.int .i64 T.pf, .int .i64 T.pl, .slice A T.ins.length ca, .slice E T.exits.length ce] 31)).alloc' (.cells #[.slice A2 F.length c2, .slice none 0 0, .int .i64 back] 83))
  have HT := Lib.hid (h.quiet HK.out)
  have HB0 := Lib.hid (alloc_old' (o' := .cells #[.slice A2 F.length c2, .slice none 0 0, .int .i64 back] 83) (heap_alloc_new w (.cells #[.int .i64 T.pf, .int .i64 T.pl, .slice A T.ins.length ca, .slice E T.exits.length ce] 31)))
  have HB1 := Lib.hid (show ((w.alloc (.cells #[.int .i64 T.pf, .int .i64 T.pl, .slice A T.ins.length ca, .slice E T.exits.length ce] 31)).alloc (.cells #[.slice A2 F.length c2, .slice none 0 0, .int .i64 back] 83)).heap[w.heap.size + 1]? = some (.cells #[.slice A2 F.length c2, .slice none 0 0, .int .i64 back] 83 (0, 0)) from by simpa using heap_alloc_new (w.alloc (.cells #[.int .i64 T.pf, .int .i64 T.pl, .slice A T.ins.length ca, .slice E T.exits.length ce] 31)) (.cells #[.slice A2 F.length c2, .slice none 0 0, .int .i64 back] 83))
  rw [hM, hN, hM2] at HK HT HB0 HB1
  rw [hN] at hfew
  rw [hM] at hN2
  have HN := Lib.hid hN
  have HM := Lib.hid hM
  have HM2 := Lib.hid hM2
  rw [hM, hN, hM2]
  clear h hr hk hf he hM hN hM2 hlen
  go_enter Tryd.func87, Tryd.ntmps87
  go_upto_region 1 with (fail)
  obtain ⟨W, hW⟩ : ∃ W : World, ((w.alloc (.cells #[.int .i64 T.pf, .int .i64 T.pl, .slice A N ca, .slice E M2 ce] 31)).alloc (.cells #[.slice A2 M c2, .slice none 0 0, .int .i64 back] 83)) = W := ⟨_, rfl⟩
  rw [hW] at HK HT HB0 HB1
  rw [hW]
  obtain ⟨q, hq⟩ : ∃ q, w.heap.size = q := ⟨_, rfl⟩
  rw [hq] at HB0 HB1
  rw [hq]
  have HQ := Lib.hid hq
  clear hW hq
  have HF1 := Lib.hid (RX.Fits.keep HF.out HK.out (fun _ _ _ => id) (fun _ _ _ => id))
  have e0 := (blk_cell HB1.out 0).trans rfl
  have e2 := (blk_cell HB1.out 2).trans rfl
  have hm1 : decide (M < 1) = false := by simp; omega
  have hm2 : decide (6 < M) = false := by simp; omega
  have hm3 : decide (back < 0) = false := by simp; omega
  go_wp2_with fail
  clear e0 e2
  go_loopw [7, 8] (fun o i wr => ∃ j : Nat, j ≤ M ∧ i = .int .i64 (j : Int) ∧ ∃ (RR : Option Addr) (cc : Nat), o = .slice RR (flatF (F.take j)).length cc ∧ Hid (wr.ownsRow W.heap.size 3 1 (.slice RR (flatF (F.take j)).length cc) (flatF (F.take j)).length (ints (flatF (F.take j))) ∧ Since W.heap.size W wr)) (fun _ i _ => M + 1 - (RowKit.intOf i).toNat)
  case atStart => exact ⟨0, Nat.zero_le _, rfl, none, 0, rfl, Lib.hid ⟨World.ownsRow_nil _ _ _ _, Keep.refl _ _⟩⟩
  case round =>
    obtain ⟨j, hj, rfl, RR, cc, rfl, VV⟩ := hrel
    obtain ⟨wo, rfl⟩ : ∃ wo : World, wo = wr := ⟨_, rfl⟩
    have hbo := (VV.out.2.block (q + 1) (blk_lt HB1.out) (by have := blk_lt HB1.out; omega)).trans HB1.out
    have e0 := (blk_cell hbo 0).trans rfl
    have hll := HFL.out j
    obtain ⟨L, hL⟩ : ∃ L, (flatF (F.take j)).length = L := ⟨_, rfl⟩
    rw [hL] at VV hll
    rw [hL]
    by_cases hlt : j < M
    · have hb1 : decide (j < M) = true := by simpa using hlt
      have HFO := Lib.hid (RX.Fits.keep HF1.out VV.out.2 (fun g cur hg e => by have := blk_lt hg; omega) (fun g cur hg e => by have := blk_lt hg; omega))
      obtain ⟨g, o, rfl, hc, hv⟩ := HFO.out.frm (k := j) (by rw [← HM.out] at hlt; exact hlt)
      obtain ⟨h1, h2, h3⟩ := HEV.out _ (getD_mem (show j < F.length by rw [HM.out]; exact hlt) : F.getD j RF.dflt ∈ F)
      have HS := Lib.hid (flatF_succ F j (by rw [HM.out]; exact hlt))
      obtain ⟨fr, hfe⟩ : ∃ fr, F.getD j RF.dflt = fr := ⟨_, rfl⟩
      dsimp only at hc hv
      rw [hfe] at hc h1 h2 h3 HS hv
      obtain ⟨⟨fn, ln, vars⟩, Av, cv⟩ := fr
      dsimp only at hc h1 h2 h3 HS hv
      have z0 : wo.cell? ⟨g, o + j * 3, none⟩ = some (.int .i64 fn) := (hc 0 (by omega)).trans rfl
      have z1 : wo.cell? ⟨g, o + j * 3 + 1, none⟩ = some (.int .i64 ln) := (hc 1 (by omega)).trans rfl
      have z2 : wo.cell? ⟨g, o + j * 3 + 2, none⟩ = some (.slice Av vars.length cv) := (hc 2 (by omega)).trans rfl
      have d1 : decide (fn < 0) = false := by simp; omega
      have d2 : decide (ln < 0) = false := by simp; omega
      obtain ⟨V, hV⟩ : ∃ V, vars.length = V := ⟨_, rfl⟩
      have HVL := Lib.hid hV
      rw [hV] at z2 h3 hv
      have d3 : decide (24 < V) = false := by simp; omega
      have HLL := Lib.hid hL
      have HHV := Lib.hid hv
      clear hc hfe hbo hV hv hL
      go_upto_region 10 with (fail)
      have HKO := Lib.hid ((Keep.refl (fun _ => False) wo).alloc' (.cells #[.int .i64 fn, .int .i64 ln, .slice Av V cv] 95))
      have HVO := Lib.hid (show (wo.alloc (.cells #[.int .i64 fn, .int .i64 ln, .slice Av V cv] 95)).ownsRow W.heap.size 3 1 (.slice RR L cc) L (ints (flatF (F.take j))) ∧ Since W.heap.size W (wo.alloc (.cells #[.int .i64 fn, .int .i64 ln, .slice Av V cv] 95)) from ⟨HKO.out.own VV.out.1 (fun _ _ => id), Keep.trans VV.out.2 (Since.of HKO.out)⟩)
      have HIV := Lib.hid (CellsAt.keep HHV.out HKO.out (fun _ _ => id))
      clear z0 z1 z2 e0
      go_wp2_with (at_builtin; go_loud (refine wpList_append_any 22 3 _ 8 W.heap.size Tryd.ints1 _ _ rfl rfl _ L (ints (flatF (F.take j))) rfl (by exact HVO.out.1) Av V cv (ints vars) rfl (by exact HIV.out) (ints_one _) (by omega) (by decide) HVO.out.2.size ?_))
      intro v' w5 hown hgr hblk
      obtain ⟨R', c', rfl⟩ := own_slice hown
      have HLN := Lib.hid (show (flatF (F.take (j + 1))).length = L + V by rw [HS.out, List.length_append, HLL.out, HVL.out])
      have HY := Lib.hid (show w5.ownsRow W.heap.size 3 1 (.slice R' (flatF (F.take (j + 1))).length c') (flatF (F.take (j + 1))).length (ints (flatF (F.take (j + 1)))) ∧ Since W.heap.size W w5 from ⟨by
        rw [HLN.out, HS.out, ints_append]
        exact hown, HVO.out.2.grown hgr (fun k e => .inl (own_low HVO.out.1 e))⟩)
      clear hown hgr hblk
      go_wp2_with fail
      exact ⟨⟨j + 1, by omega, by go_num, R', c', by rw [HLN.out], by have h5 := HY; rw [HLN.out] at h5 ⊢; exact h5⟩, by simp [RowKit.intOf]; omega⟩
    · have hb1 : decide (j < M) = false := by simpa using hlt
      obtain rfl : j = M := by omega
      have e1 := (blk_cell hbo 1).trans rfl
      have HVV := Lib.hid (show wo.ownsRow W.heap.size 3 1 (.slice RR L cc) L (ints (flatF F)) ∧ Since W.heap.size W wo ∧ (flatF F).length = L from by
        have h9 := VV.out
        have h8 := hL
        rw [← HM.out, List.take_length] at h9 h8
        exact ⟨h9.1, h9.2, h8⟩)
      have HT1 := Lib.hid (HT.out.since VV.out.2)
      have HI := Lib.hid (Lies.own HVV.out.1 (by decide) (by omega)).1
      clear hbo hL VV
      go_wp2_with fail
      go_loopw [7, 10] (fun o i wr => o = .slice RR L cc ∧ i = .int .i64 0 ∧ Hid (wo = wr)) (fun _ i _ => 0)
      case atStart => exact ⟨rfl, rfl, Lib.hid rfl⟩
      case round =>
        obtain ⟨rfl, rfl, HW0⟩ := hrel
        obtain ⟨wo, rfl⟩ : ∃ wo : World, wo = wr := ⟨_, rfl⟩
        obtain rfl := HW0.out
        go_wp2_with fail
        clear e0 e1
        go_loopw [12] (fun i wr => ∃ m : Nat, m ≤ L ∧ i = .int .i64 (m : Int) ∧ Hid (Keep (fun _ => False) wo wr)) (fun i _ => L + 1 - (RowKit.intOf i).toNat)
        case atStart => exact ⟨0, Nat.zero_le _, rfl, Lib.hid (Keep.refl _ _)⟩
        case round =>
          obtain ⟨m, hm, rfl, HW⟩ := hrel
          obtain ⟨wm, rfl⟩ : ∃ wm : World, wm = wr := ⟨_, rfl⟩
          by_cases hml : m < L
          · have hb2 : decide (m < L) = true := by simpa using hml
            have hml2 : (m : Int) < (L : Int) := by omega
            obtain ⟨g2, o2, rfl, _, hcl⟩ := HI.out.2.2 (by omega)
            have hcm := hcl m (by omega)
            have hmem : (flatF F).getD m 0 ∈ flatF F := getD_mem (by rw [HVV.out.2.2]; exact hml)
            have hvv := HNM.out _ hmem
            have hlv : wm.cell? ⟨g2, o2 + m, none⟩ = some (.int .i64 ((flatF F).getD m 0)) := by
              have hml9 : m < (flatF F).length := by rw [HVV.out.2.2]; exact hml
              refine cell_kept HW.out (hcm.trans ?_) id
              unfold ints
              rw [List.getElem?_map, List.getElem?_eq_getElem hml9, List.getD_eq_getElem?_getD, List.getElem?_eq_getElem hml9]
              rfl
            obtain ⟨v, hv⟩ : ∃ v, (flatF F).getD m 0 = v := ⟨_, rfl⟩
            rw [hv] at hvv hlv
            have HB0m := Lib.hid ((HW.out.block q (by have := HVV.out.2.1.size; have := blk_lt HB0.out; omega) id).trans ((HVV.out.2.1.block q (blk_lt HB0.out) (by have := blk_lt HB0.out; omega)).trans HB0.out))
            have d0 := (blk_cell HB0m.out 0).trans rfl
            have d1 := (blk_cell HB0m.out 1).trans rfl
            have d2 := (blk_cell HB0m.out 2).trans rfl
            have d3 := (blk_cell HB0m.out 3).trans rfl
            clear hcl hcm hmem hv
            by_cases hv1 : v = -1
            · subst hv1
              go_wp2_with fail
              exact ⟨⟨m + 1, by omega, by go_num, Lib.hid HW.out⟩, by simp [RowKit.intOf]; omega⟩
            · have hb3 : (v == -1) = false := by simpa using hv1
              have hvb := hvv.resolve_left hv1
              have hvb2 := hvb
              obtain ⟨u, hu, huk, _⟩ := hvb2
              have HTm := Lib.hid (HT1.out.quiet HW.out)
              have HVC := Lib.hid (show ∀ W3, Keep (fun _ => False) wm W3 → Calls Tryd.prog 85 #[.agg #[.int .i64 T.pf, .int .i64 T.pl, .slice A N ca, .slice E M2 ce], .int .i64 v, .int .i64 (k : Int)] W3 fun e w' => e = .returned (.bool true) ∧ Keep (fun _ => False) W3 w' from fun W3 hW3 => by
                have h9 := isval_any (HTm.out.quiet hW3) hvb (Nat.le_of_lt HKN.out) (by have := HR.out.few; omega)
                unfold trV at h9
                rw [HN.out, HM2.out] at h9
                exact h9)
              have huN : u < T.ins.length := by have := HKN.out; omega
              obtain ⟨g3, hA3, hop⟩ := HTm.out.opAt huN
              have hn17 := (HR.out.good.shape u huN).1.not17
              obtain ⟨op, ho⟩ : ∃ op, (T.at_ u).op = op := ⟨_, rfl⟩
              rw [ho] at hop hn17
              have huN2 : u < N := by rw [← HN.out]; exact huN
              have huN3 : (u : Int) < (N : Int) := by omega
              subst hA3
              subst hu
              clear hvv hvb ho huk huN hb2 hlt
              go_wp2_with fail
              refine wp_region_drewU (S := (fun w' => Hid (w'.heap[q]? = some (.cells #[.int .i64 T.pf, .int .i64 T.pl, .slice (some ⟨g3, 0, none⟩) N ca, .slice E M2 ce] 31 (0, 0)) ∧ w'.cell? ⟨g2, o2 + m, none⟩ = some (.int .i64 (u : Int)) ∧ w'.cell? ⟨g3, u * 14, none⟩ = some (.int .i64 op)))) (D := []) (by kernel_rfl) (by exact Lib.hid ⟨HB0m.out, hlv, hop⟩) (fun hH => ?_)
              refine wpAnyU_take (i := 0) (v := ?_) rfl (by kernel_rfl) (by kernel_rfl) (by kernel_rfl) (by kernel_rfl) (fun _ _ _ h => h) (Or.inl ⟨by rfl, ?_⟩) hH ?_
              rotate_left
              · (intro w'' hSw; (have f0 := (blk_cell hSw.out.1 0).trans rfl; have f1 := (blk_cell hSw.out.1 1).trans rfl; have f2 := (blk_cell hSw.out.1 2).trans rfl; have f3 := (blk_cell hSw.out.1 3).trans rfl); go_simp; try with_reducible rfl)
              change wpAnyU _ _ _ _ _ _ _ _ (Act.put _ (some 141) _) _
              try simp only [Act.put, List.setIfInBounds_toArray, List.set_cons_zero, List.set_cons_succ]
              refine wpAnyU_take (i := 1) (v := ?_) rfl (by kernel_rfl) (by kernel_rfl) (by kernel_rfl) (by kernel_rfl) (fun _ _ _ h => h) (Or.inl ⟨by rfl, ?_⟩) hH ?_
              rotate_left
              · (intro w'' hSw; (try dsimp only at hSw); go_simp; try with_reducible rfl)
              change wpAnyU _ _ _ _ _ _ _ _ (Act.put _ (some 142) _) _
              try simp only [Act.put, List.setIfInBounds_toArray, List.set_cons_zero, List.set_cons_succ]
              refine wpAnyU_take (i := 2) (v := ?_) rfl (by kernel_rfl) (by kernel_rfl) (by kernel_rfl) (by kernel_rfl) (fun _ _ _ h => h) (Or.inl ⟨by rfl, ?_⟩) hH ?_
              rotate_left
              · (intro w'' hSw; (try dsimp only at hSw); go_simp; try with_reducible rfl)
              change wpAnyU _ _ _ _ _ _ _ _ (Act.put _ (some 143) _) _
              try simp only [Act.put, List.setIfInBounds_toArray, List.set_cons_zero, List.set_cons_succ]
              refine wpAnyU_take (i := 3) (v := ?_) rfl (by kernel_rfl) (by kernel_rfl) (by kernel_rfl) (by kernel_rfl) (fun _ _ _ h => h) (Or.inl ⟨by rfl, ?_⟩) hH ?_
              rotate_left
              · (intro w'' hSw; (try dsimp only at hSw); go_simp; try with_reducible rfl)
              change wpAnyU _ _ _ _ _ _ _ _ (Act.put _ (some 144) _) _
              try simp only [Act.put, List.setIfInBounds_toArray, List.set_cons_zero, List.set_cons_succ]
              refine wpAnyU_take (i := 4) (v := ?_) rfl (by kernel_rfl) (by kernel_rfl) (by kernel_rfl) (by kernel_rfl) (fun _ _ _ h => h) (Or.inl ⟨by rfl, ?_⟩) hH ?_
              rotate_left
              · (intro w'' hSw; (have f4 := hSw.out.2.1); go_simp; try with_reducible rfl)
              change wpAnyU _ _ _ _ _ _ _ _ (Act.put _ (some 145) _) _
              try simp only [Act.put, List.setIfInBounds_toArray, List.set_cons_zero, List.set_cons_succ]
              refine wpAnyU_take (i := 5) (v := ?_) rfl (by kernel_rfl) (by kernel_rfl) (by kernel_rfl) (by kernel_rfl) (fun _ _ _ h => h) (Or.inl ⟨by rfl, ?_⟩) hH ?_
              rotate_left
              · (intro w'' hSw; (try dsimp only at hSw); go_simp; try with_reducible rfl)
              change wpAnyU _ _ _ _ _ _ _ _ (Act.put _ (some 146) _) _
              try simp only [Act.put, List.setIfInBounds_toArray, List.set_cons_zero, List.set_cons_succ]
              refine wpAnyU_ready (rs := [6]) (by kernel_rfl) (by simp) ?_
              refine AllReadyU.cons rfl (fun Kn hKn => ?_) AllReadyU.nil
              go_simp
              go_at_call 85
              (with_reducible refine (HVC.out _ (keep_draw _ _)).mono ?_)
              rintro ee we ⟨rfl, hke⟩
              have HKE := Lib.hid hke
              replace HW := Lib.hid (Keep.trans HW.out (Keep.trans (keep_draw (fun _ => False) wm) hke))
              clear hke
              refine hKn.out _ _ ?_ (fun hH => ?_)
              · (obtain ⟨s0, s1, s2⟩ := hH.out; exact Lib.hid ⟨(HKE.out.block _ (blk_lt s0) id).trans s0, cell_kept HKE.out s1 id, cell_kept HKE.out s2 id⟩)
              clear hKn Kn
              try simp only [Act.put, List.setIfInBounds_toArray, List.set_cons_zero, List.set_cons_succ]
              refine wpAnyU_take (i := 7) (v := ?_) rfl (by kernel_rfl) (by kernel_rfl) (by kernel_rfl) (by kernel_rfl) (fun _ _ _ h => h) (Or.inl ⟨by rfl, ?_⟩) hH ?_
              rotate_left
              · (intro w'' hSw; (try dsimp only at hSw); go_simp; try with_reducible rfl)
              change wpAnyU _ _ _ _ _ _ _ _ (Act.put _ (some 148) _) _
              try simp only [Act.put, List.setIfInBounds_toArray, List.set_cons_zero, List.set_cons_succ]
              refine wpAnyU_take (i := 8) (v := ?_) rfl (by kernel_rfl) (by kernel_rfl) (by kernel_rfl) (by kernel_rfl) (fun _ _ _ h => h) (Or.inl ⟨by rfl, ?_⟩) hH ?_
              rotate_left
              · (intro w'' hSw; (try dsimp only at hSw); go_simp; try with_reducible rfl)
              change wpAnyU _ _ _ _ _ _ _ _ (Act.put _ (some 149) _) _
              try simp only [Act.put, List.setIfInBounds_toArray, List.set_cons_zero, List.set_cons_succ]
              refine wpAnyU_take (i := 9) (v := ?_) rfl (by kernel_rfl) (by kernel_rfl) (by kernel_rfl) (by kernel_rfl) (fun _ _ _ h => h) (Or.inl ⟨by rfl, ?_⟩) hH ?_
              rotate_left
              · (intro w'' hSw; (try dsimp only at hSw); go_simp; try with_reducible rfl)
              change wpAnyU _ _ _ _ _ _ _ _ (Act.put _ (some 150) _) _
              try simp only [Act.put, List.setIfInBounds_toArray, List.set_cons_zero, List.set_cons_succ]
              refine wpAnyU_take (i := 10) (v := ?_) rfl (by kernel_rfl) (by kernel_rfl) (by kernel_rfl) (by kernel_rfl) (fun _ _ _ h => h) (Or.inl ⟨by rfl, ?_⟩) hH ?_
              rotate_left
              · (intro w'' hSw; (have f2 := (blk_cell hSw.out.1 2).trans rfl); go_simp; try with_reducible rfl)
              change wpAnyU _ _ _ _ _ _ _ _ (Act.put _ (some 151) _) _
              try simp only [Act.put, List.setIfInBounds_toArray, List.set_cons_zero, List.set_cons_succ]
              refine wpAnyU_take (i := 11) (v := ?_) rfl (by kernel_rfl) (by kernel_rfl) (by kernel_rfl) (by kernel_rfl) (fun _ _ _ h => h) (Or.inl ⟨by rfl, ?_⟩) hH ?_
              rotate_left
              · (intro w'' hSw; (try dsimp only at hSw); go_simp; try with_reducible rfl)
              change wpAnyU _ _ _ _ _ _ _ _ (Act.put _ (some 152) _) _
              try simp only [Act.put, List.setIfInBounds_toArray, List.set_cons_zero, List.set_cons_succ]
              refine wpAnyU_take (i := 12) (v := ?_) rfl (by kernel_rfl) (by kernel_rfl) (by kernel_rfl) (by kernel_rfl) (fun _ _ _ h => h) (Or.inl ⟨by rfl, ?_⟩) hH ?_
              rotate_left
              · (intro w'' hSw; (try dsimp only at hSw); go_simp; try with_reducible rfl)
              change wpAnyU _ _ _ _ _ _ _ _ (Act.put _ (some 153) _) _
              try simp only [Act.put, List.setIfInBounds_toArray, List.set_cons_zero, List.set_cons_succ]
              refine wpAnyU_take (i := 13) (v := ?_) rfl (by kernel_rfl) (by kernel_rfl) (by kernel_rfl) (by kernel_rfl) (fun _ _ _ h => h) (Or.inl ⟨by rfl, ?_⟩) hH ?_
              rotate_left
              · (intro w'' hSw; (try dsimp only at hSw); go_simp; try with_reducible rfl)
              change wpAnyU _ _ _ _ _ _ _ _ (Act.put _ (some 154) _) _
              try simp only [Act.put, List.setIfInBounds_toArray, List.set_cons_zero, List.set_cons_succ]
              refine wpAnyU_take (i := 14) (v := ?_) rfl (by kernel_rfl) (by kernel_rfl) (by kernel_rfl) (by kernel_rfl) (fun _ _ _ h => h) (Or.inl ⟨by rfl, ?_⟩) hH ?_
              rotate_left
              · (intro w'' hSw; (have f4 := hSw.out.2.1); go_simp; try with_reducible rfl)
              change wpAnyU _ _ _ _ _ _ _ _ (Act.put _ (some 155) _) _
              try simp only [Act.put, List.setIfInBounds_toArray, List.set_cons_zero, List.set_cons_succ]
              refine wpAnyU_take (i := 15) (v := ?_) rfl (by kernel_rfl) (by kernel_rfl) (by kernel_rfl) (by kernel_rfl) (fun _ _ _ h => h) (Or.inl ⟨by rfl, ?_⟩) hH ?_
              rotate_left
              · (intro w'' hSw; (try dsimp only at hSw); go_simp; try with_reducible rfl)
              change wpAnyU _ _ _ _ _ _ _ _ (Act.put _ (some 156) _) _
              try simp only [Act.put, List.setIfInBounds_toArray, List.set_cons_zero, List.set_cons_succ]
              refine wpAnyU_take (i := 16) (v := ?_) rfl (by kernel_rfl) (by kernel_rfl) (by kernel_rfl) (by kernel_rfl) (fun _ _ _ h => h) (Or.inl ⟨by rfl, ?_⟩) hH ?_
              rotate_left
              · (intro w'' hSw; (try dsimp only at hSw); go_simp; try with_reducible rfl)
              change wpAnyU _ _ _ _ _ _ _ _ (Act.put _ (some 157) _) _
              try simp only [Act.put, List.setIfInBounds_toArray, List.set_cons_zero, List.set_cons_succ]
              refine wpAnyU_take (i := 17) (v := ?_) rfl (by kernel_rfl) (by kernel_rfl) (by kernel_rfl) (by kernel_rfl) (fun _ _ _ h => h) (Or.inl ⟨by rfl, ?_⟩) hH ?_
              rotate_left
              · (intro w'' hSw; (have f5 := hSw.out.2.2); go_simp; try with_reducible rfl)
              change wpAnyU _ _ _ _ _ _ _ _ (Act.put _ (some 158) _) _
              try simp only [Act.put, List.setIfInBounds_toArray, List.set_cons_zero, List.set_cons_succ]
              refine wpAnyU_take (i := 18) (v := ?_) rfl (by kernel_rfl) (by kernel_rfl) (by kernel_rfl) (by kernel_rfl) (fun _ _ _ h => h) (Or.inl ⟨by rfl, ?_⟩) hH ?_
              rotate_left
              · (intro w'' hSw; (try dsimp only at hSw); go_simp; try with_reducible rfl)
              change wpAnyU _ _ _ _ _ _ _ _ (Act.put _ (some 159) _) _
              try simp only [Act.put, List.setIfInBounds_toArray, List.set_cons_zero, List.set_cons_succ]
              refine wpAnyU_take (i := 19) (v := ?_) rfl (by kernel_rfl) (by kernel_rfl) (by kernel_rfl) (by kernel_rfl) (fun _ _ _ h => h) (Or.inl ⟨by rfl, ?_⟩) hH ?_
              rotate_left
              · (intro w'' hSw; (try dsimp only at hSw); go_simp; try with_reducible rfl)
              change wpAnyU _ _ _ _ _ _ _ _ (Act.put _ (some 160) _) _
              try simp only [Act.put, List.setIfInBounds_toArray, List.set_cons_zero, List.set_cons_succ]
              refine wpAnyU_take (i := 20) (v := undef) rfl (by kernel_rfl) (by kernel_rfl) (by kernel_rfl) (by kernel_rfl) (fun _ _ _ h => h) (Or.inr ⟨by rfl, rfl⟩) hH ?_
              change wpAnyU _ _ _ _ _ _ _ _ (Act.put _ (some 161) _) _
              try simp only [Act.put, List.setIfInBounds_toArray, List.set_cons_zero, List.set_cons_succ]
              refine wpAnyU_take (i := 21) (v := undef) rfl (by kernel_rfl) (by kernel_rfl) (by kernel_rfl) (by kernel_rfl) (fun _ _ _ h => h) (Or.inr ⟨by rfl, rfl⟩) hH ?_
              change wpAnyU _ _ _ _ _ _ _ _ (Act.put _ (some 162) _) _
              try simp only [Act.put, List.setIfInBounds_toArray, List.set_cons_zero, List.set_cons_succ]
              refine wpAnyU_take (i := 22) (v := undef) rfl (by kernel_rfl) (by kernel_rfl) (by kernel_rfl) (by kernel_rfl) (fun _ _ _ h => h) (Or.inr ⟨by rfl, rfl⟩) hH ?_
              change wpAnyU _ _ _ _ _ _ _ _ (Act.put _ (some 163) _) _
              try simp only [Act.put, List.setIfInBounds_toArray, List.set_cons_zero, List.set_cons_succ]
              refine wpAnyU_take (i := 23) (v := undef) rfl (by kernel_rfl) (by kernel_rfl) (by kernel_rfl) (by kernel_rfl) (fun _ _ _ h => h) (Or.inr ⟨by rfl, rfl⟩) hH ?_
              change wpAnyU _ _ _ _ _ _ _ _ (Act.put _ (some 164) _) _
              try simp only [Act.put, List.setIfInBounds_toArray, List.set_cons_zero, List.set_cons_succ]
              refine wpAnyU_take (i := 24) (v := undef) rfl (by kernel_rfl) (by kernel_rfl) (by kernel_rfl) (by kernel_rfl) (fun _ _ _ h => h) (Or.inr ⟨by rfl, rfl⟩) hH ?_
              change wpAnyU _ _ _ _ _ _ _ _ (Act.put _ (some 165) _) _
              try simp only [Act.put, List.setIfInBounds_toArray, List.set_cons_zero, List.set_cons_succ]
              refine wpAnyU_take (i := 25) (v := undef) rfl (by kernel_rfl) (by kernel_rfl) (by kernel_rfl) (by kernel_rfl) (fun _ _ _ h => h) (Or.inr ⟨by rfl, rfl⟩) hH ?_
              change wpAnyU _ _ _ _ _ _ _ _ (Act.put _ (some 166) _) _
              try simp only [Act.put, List.setIfInBounds_toArray, List.set_cons_zero, List.set_cons_succ]
              refine wpAnyU_take (i := 26) (v := undef) rfl (by kernel_rfl) (by kernel_rfl) (by kernel_rfl) (by kernel_rfl) (fun _ _ _ h => h) (Or.inr ⟨by rfl, rfl⟩) hH ?_
              change wpAnyU _ _ _ _ _ _ _ _ (Act.put _ (some 167) _) _
              try simp only [Act.put, List.setIfInBounds_toArray, List.set_cons_zero, List.set_cons_succ]
              refine wpAnyU_take (i := 27) (v := ?_) rfl (by kernel_rfl) (by kernel_rfl) (by kernel_rfl) (by kernel_rfl) (fun _ _ _ h => h) (Or.inl ⟨by rfl, ?_⟩) hH ?_
              rotate_left
              · (intro w'' hSw; (try dsimp only at hSw); go_simp; try with_reducible rfl)
              change wpAnyU _ _ _ _ _ _ _ _ (Act.put _ (some 168) _) _
              try simp only [Act.put, List.setIfInBounds_toArray, List.set_cons_zero, List.set_cons_succ]
              refine wpAnyU_take (i := 28) (v := ?_) rfl (by kernel_rfl) (by kernel_rfl) (by kernel_rfl) (by kernel_rfl) (fun _ _ _ h => h) (Or.inl ⟨by rfl, ?_⟩) hH ?_
              rotate_left
              · (intro w'' hSw; (try dsimp only at hSw); go_simp; try with_reducible rfl)
              change wpAnyU _ _ _ _ _ _ _ _ (Act.put _ (some 169) _) _
              try simp only [Act.put, List.setIfInBounds_toArray, List.set_cons_zero, List.set_cons_succ]
              refine wpAnyU_done (by kernel_rfl) ?_ _
              go_wp2_with fail
              exact ⟨⟨m + 1, by omega, by go_num, HW⟩, by simp [RowKit.intOf]; omega⟩
          · have hb2 : decide (m < L) = false := by simpa using hml
            go_wp2_with fail
            go_ret
            exact ⟨rfl, Keep.trans (Since.of HK.out) (Since.mono (Keep.trans HVV.out.2.1 (Since.of HW.out)) HK.out.size)⟩
end
end Go.Proofs.YtnbpgipbfejllaaDoor
