/- graph: the reference's Uses. -/
import Derived.Test.YtnbpgipbfejllaaDoorMG6
namespace Go.Proofs.YtnbpgipbfejllaaDoor
open Go.RowKit
set_option linter.unusedVariables false
set_option linter.unusedSimpArgs false

def TR.usedAt (T : TR) (v : Nat) (k : Nat) : Bool := decide ((v : Int) ∈ (T.at_ k).uses) || (decide (0 ≤ (T.at_ k).ex) && (T.ext k).names (v : Int))
def TR.usesTo (T : TR) (v k : Nat) : List Nat := (List.range k).filter (T.usedAt v)
theorem usesTo_succ (T : TR) (v k : Nat) : T.usesTo v (k + 1) = T.usesTo v k ++ if T.usedAt v k then [k] else [] := by
  unfold TR.usesTo
  rw [List.range_succ, List.filter_append]
  simp [List.filter_cons]
theorem usesTo_len (T : TR) (v k : Nat) : (T.usesTo v k).length ≤ k := by
  unfold TR.usesTo
  exact Nat.le_trans (List.length_filter_le ..) (by simp)
theorem Shape.uses_few {T : TR} {P k : Nat} {x : TI} (h : Shape T P k x) (hP : P ≤ 4) : x.uses.length ≤ 4 := by
  cases h with
  | loop args a b => simp [TI.uses]; omega
  | _ => simp [TI.uses]
section
variable {w w' : World} {A : Option Addr} {ca : Nat} {E : Option Addr} {ce : Nat} {R : List RI} {X : List RX} {T : TR}
theorem TA.cellsX (h : TA w A ca E ce R X T) {k : Nat} (hk : k < T.exits.length) : ∃ g, E = some ⟨g, 0, none⟩ ∧ (X.getD k RX.dflt).x = T.exits.getD k TX.dflt ∧ X.getD k RX.dflt ∈ X ∧ ∀ i, i < 3 → w.cell? ⟨g, k * 3 + i, none⟩ = some ((X.getD k RX.dflt).cells.getD i undef) := by
  have hX := h.lenX
  have hkX : k < X.length := by omega
  obtain ⟨g, o, cur, e, hg⟩ := h.lieX.2 (by omega)
  have e0 := h.offE _ e
  have eo : o = 0 := by have := congrArg Addr.off e0; exact this
  subst eo
  refine ⟨g, e, ?_, getD_mem hkX, fun i hi => ?_⟩
  · rw [← h.exits]
    simp [List.getD_eq_getElem?_getD, List.getElem?_map, List.getElem?_eq_getElem hkX]
  · obtain ⟨b, off, e2, _, hx⟩ := h.lieX.1.2.2 (by omega)
    rw [e] at e2
    obtain ⟨rfl, rfl⟩ : g = b ∧ 0 = off := by
      have := Option.some.inj e2
      injection this with a b
      exact ⟨a, b⟩
    have h9 := hx (k * 3 + i) (by have : (k + 1) * 3 ≤ X.length * 3 := Nat.mul_le_mul_right _ hkX; omega)
    rw [Nat.zero_add] at h9
    rw [h9, List.getD_eq_getElem?_getD, rowG_at RX.cells_length RX.dflt X k i hkX hi]
    rfl
set_option maxRecDepth 100000 in
set_option maxHeartbeats 8000000 in
theorem ruses_any {P : Nat} (h : TA w A ca E ce R X T) (hr : RightT P T) (v : Nat) : Calls Tryd.prog 34 #[trV A ca E ce T, .int .i64 (v : Int)] w fun e w' => (∃ A' c', e = .returned (.slice A' (T.usesTo v T.ins.length).length c') ∧ IntsAt w' A' (T.usesTo v T.ins.length).length (nats (T.usesTo v T.ins.length))) ∧ Since w.heap.size w w' := by
  have HK := Lib.hid ((Keep.refl (fun _ => False) w).alloc' (.cells #[.int .i64 T.pf, .int .i64 T.pl, .slice A T.ins.length ca, .slice E T.exits.length ce] 31))
  have H1 := Lib.hid (h.quiet HK.out)
  have HB := Lib.hid (heap_alloc_new w (.cells #[.int .i64 T.pf, .int .i64 T.pl, .slice A T.ins.length ca, .slice E T.exits.length ce] 31))
  have HR := Lib.hid hr
  have hF := hr.few
  have hXF := hr.good.few
  obtain ⟨N, hN⟩ : ∃ N, T.ins.length = N := ⟨_, rfl⟩
  obtain ⟨M, hM⟩ : ∃ M, T.exits.length = M := ⟨_, rfl⟩
  unfold trV
  rw [hN, hM] at HK HB hXF ⊢
  rw [hN] at hF
  have HN := Lib.hid hN
  have HM := Lib.hid hM
  clear h hr hN hM
  go_enter Tryd.func34, Tryd.ntmps34
  go_wp2_with fail
  obtain ⟨q, hq⟩ : ∃ q, w.heap.size = q := ⟨_, rfl⟩
  obtain ⟨w1, hw1⟩ : ∃ w1 : World, w.alloc (.cells #[.int .i64 T.pf, .int .i64 T.pl, .slice A N ca, .slice E M ce] 31) = w1 := ⟨_, rfl⟩
  rw [HN.out, HM.out] at H1
  rw [hw1] at HK HB H1
  rw [hq] at HB
  rw [hw1, hq]
  have HQ := Lib.hid hq
  clear hw1 hq
  go_loopw [5, 6] (fun o i wr => ∃ k : Nat, k ≤ N ∧ i = .int .i64 (k : Int) ∧ ∃ (RR : Option Addr) (cc : Nat), o = .slice RR (T.usesTo v k).length cc ∧ Hid (wr.ownsRow w1.heap.size 3 1 (.slice RR (T.usesTo v k).length cc) (T.usesTo v k).length (ints (nats (T.usesTo v k))) ∧ Since w1.heap.size w1 wr)) (fun _ i _ => N + 1 - (RowKit.intOf i).toNat)
  case atStart => exact ⟨0, Nat.zero_le _, rfl, none, 0, rfl, Lib.hid ⟨World.ownsRow_nil _ _ _ _, Keep.refl _ _⟩⟩
  case round =>
    obtain ⟨k, hk, rfl, RR, cc, rfl, VV⟩ := hrel
    obtain ⟨wo, rfl⟩ : ∃ wo : World, wo = wr := ⟨_, rfl⟩
    have hbo := (VV.out.2.block q (blk_lt HB.out) (by have := blk_lt HB.out; omega)).trans HB.out
    have c1 := (blk_cell hbo 2).trans rfl
    have hll := usesTo_len T v k
    obtain ⟨L, hL⟩ : ∃ L, (T.usesTo v k).length = L := ⟨_, rfl⟩
    rw [hL] at VV hll
    rw [hL]
    by_cases hlt : k < N
    · have hb1 : decide (k < N) = true := by simpa using hlt
      have HT := Lib.hid (H1.out.since VV.out.2)
      obtain ⟨g, rfl, _, hx, hm, hc⟩ := HT.out.cellsI (k := k) (by rw [HN.out]; exact hlt)
      have hft := HT.out.fitR _ hm
      obtain ⟨r, hrr⟩ : ∃ r, R.getD k RI.dflt = r := ⟨_, rfl⟩
      rw [hrr] at hx hc hft
      obtain ⟨⟨op, a, b, c, nn, args, kk, kn, ks, names, pf, pl, ex, once⟩, A2, ca2, N2, cn2⟩ := r
      have z0 : wo.cell? ⟨g, k * 14, none⟩ = some (.int .i64 op) := (hc 0 (by omega)).trans rfl
      have z1 : wo.cell? ⟨g, k * 14 + 1, none⟩ = some (.int .i64 a) := (hc 1 (by omega)).trans rfl
      have z2 : wo.cell? ⟨g, k * 14 + 2, none⟩ = some (.int .i64 b) := (hc 2 (by omega)).trans rfl
      have z3 : wo.cell? ⟨g, k * 14 + 3, none⟩ = some (.int .i64 c) := (hc 3 (by omega)).trans rfl
      have z4 : wo.cell? ⟨g, k * 14 + 4, none⟩ = some (.int .i64 nn) := (hc 4 (by omega)).trans rfl
      have z5 : wo.cell? ⟨g, k * 14 + 5, none⟩ = some (.slice A2 args.length ca2) := (hc 5 (by omega)).trans rfl
      have z6 : wo.cell? ⟨g, k * 14 + 6, none⟩ = some (.int .i64 kk) := (hc 6 (by omega)).trans rfl
      have z7 : wo.cell? ⟨g, k * 14 + 7, none⟩ = some (.int .i64 kn) := (hc 7 (by omega)).trans rfl
      have z8 : wo.cell? ⟨g, k * 14 + 8, none⟩ = some (.string (sb ks)) := (hc 8 (by omega)).trans rfl
      have z9 : wo.cell? ⟨g, k * 14 + 9, none⟩ = some (.slice N2 names.length cn2) := (hc 9 (by omega)).trans rfl
      have z10 : wo.cell? ⟨g, k * 14 + 10, none⟩ = some (.int .i64 pf) := (hc 10 (by omega)).trans rfl
      have z11 : wo.cell? ⟨g, k * 14 + 11, none⟩ = some (.int .i64 pl) := (hc 11 (by omega)).trans rfl
      have z12 : wo.cell? ⟨g, k * 14 + 12, none⟩ = some (.int .i64 ex) := (hc 12 (by omega)).trans rfl
      have z13 : wo.cell? ⟨g, k * 14 + 13, none⟩ = some (.bool once) := (hc 13 (by omega)).trans rfl
      have HX := Lib.hid hx
      have HFT := Lib.hid hft
      clear hrr hm hc hx hft hbo
      go_upto_region 6 with (fail)
      have hblk := heap_alloc_new wo (.cells #[.int .i64 op, .int .i64 a, .int .i64 b, .int .i64 c, .int .i64 nn, .slice A2 args.length ca2, .int .i64 kk, .int .i64 kn, .string (sb ks), .slice N2 names.length cn2, .int .i64 pf, .int .i64 pl, .int .i64 ex, .bool once] 60)
      have K2 := (Keep.refl (fun _ => False) wo).alloc' (.cells #[.int .i64 op, .int .i64 a, .int .i64 b, .int .i64 c, .int .i64 nn, .slice A2 args.length ca2, .int .i64 kk, .int .i64 kn, .string (sb ks), .slice N2 names.length cn2, .int .i64 pf, .int .i64 pl, .int .i64 ex, .bool once] 60)
      obtain ⟨bb, hbb⟩ : ∃ bb, wo.heap.size = bb := ⟨_, rfl⟩
      obtain ⟨w2, hw2⟩ : ∃ w2 : World, wo.alloc (.cells #[.int .i64 op, .int .i64 a, .int .i64 b, .int .i64 c, .int .i64 nn, .slice A2 args.length ca2, .int .i64 kk, .int .i64 kn, .string (sb ks), .slice N2 names.length cn2, .int .i64 pf, .int .i64 pl, .int .i64 ex, .bool once] 60) = w2 := ⟨_, rfl⟩
      rw [hbb] at hblk
      rw [hw2] at hblk K2
      rw [hw2, hbb]
      have HT2 := Lib.hid (HT.out.quiet K2)
      have HK2 := Lib.hid K2
      have HBK := Lib.hid hblk
      have HU := Lib.hid (used_any ⟨⟨op, a, b, c, nn, args, kk, kn, ks, names, pf, pl, ex, once⟩, A2, ca2, N2, cn2⟩ (RI.Fits.keep HFT.out K2 (fun _ _ _ => id) (fun _ _ _ => id)))
      have HUF := Lib.hid (show (RI.x ⟨⟨op, a, b, c, nn, args, kk, kn, ks, names, pf, pl, ex, once⟩, A2, ca2, N2, cn2⟩).uses.length ≤ 4 from by rw [HX.out]; exact (HR.out.good.shape k (by rw [HN.out]; exact hlt)).1.uses_few HR.out.p1.2)
      have y0 : w2.cell? ⟨bb, 0, none⟩ = some (.int .i64 op) := (blk_cell hblk 0).trans rfl
      have y1 : w2.cell? ⟨bb, 1, none⟩ = some (.int .i64 a) := (blk_cell hblk 1).trans rfl
      have y2 : w2.cell? ⟨bb, 2, none⟩ = some (.int .i64 b) := (blk_cell hblk 2).trans rfl
      have y3 : w2.cell? ⟨bb, 3, none⟩ = some (.int .i64 c) := (blk_cell hblk 3).trans rfl
      have y4 : w2.cell? ⟨bb, 4, none⟩ = some (.int .i64 nn) := (blk_cell hblk 4).trans rfl
      have y5 : w2.cell? ⟨bb, 5, none⟩ = some (.slice A2 args.length ca2) := (blk_cell hblk 5).trans rfl
      have y6 : w2.cell? ⟨bb, 6, none⟩ = some (.int .i64 kk) := (blk_cell hblk 6).trans rfl
      have y7 : w2.cell? ⟨bb, 7, none⟩ = some (.int .i64 kn) := (blk_cell hblk 7).trans rfl
      have y8 : w2.cell? ⟨bb, 8, none⟩ = some (.string (sb ks)) := (blk_cell hblk 8).trans rfl
      have y9 : w2.cell? ⟨bb, 9, none⟩ = some (.slice N2 names.length cn2) := (blk_cell hblk 9).trans rfl
      have y10 : w2.cell? ⟨bb, 10, none⟩ = some (.int .i64 pf) := (blk_cell hblk 10).trans rfl
      have y11 : w2.cell? ⟨bb, 11, none⟩ = some (.int .i64 pl) := (blk_cell hblk 11).trans rfl
      have y12 : w2.cell? ⟨bb, 12, none⟩ = some (.int .i64 ex) := (blk_cell hblk 12).trans rfl
      have y13 : w2.cell? ⟨bb, 13, none⟩ = some (.bool once) := (blk_cell hblk 13).trans rfl
      clear hblk K2 hbb hw2 z0 z1 z2 z3 z4 z5 z6 z7 z8 z9 z10 z11 z12 z13
      go_wp2_with fail
      ((refine (show Calls Tryd.prog _ #[.agg (RI.cells ⟨⟨op, a, b, c, nn, args, kk, kn, ks, names, pf, pl, ex, once⟩, A2, ca2, N2, cn2⟩).toArray] w2 _ from HU.out).mono ?_); rintro ee w3 ⟨Au, cu, rfl, hiu, hk3⟩)
      have HI := Lib.hid (in_any (c := cu) hiu (by have := HUF.out; omega) (v : Int))
      have HK3 := Lib.hid (Keep.trans HK2.out hk3)
      have HT3 := Lib.hid (HT2.out.quiet hk3)
      have HBK3 := Lib.hid ((hk3.block bb (blk_lt HBK.out) id).trans HBK.out)
      clear hiu hk3 HU y0 y1 y2 y3 y4 y5 y6 y7 y8 y9 y10 y11 y12 y13 c1
      go_wp2_with fail
      ((with_reducible refine HI.out.mono ?_); rintro ee w' ⟨rfl, rfl⟩)
      have HVO := Lib.hid (show w3.ownsRow w1.heap.size 3 1 (.slice RR L cc) L (ints (nats (T.usesTo v k))) ∧ Since w1.heap.size w1 w3 from ⟨HK3.out.own VV.out.1 (fun _ _ => id), Keep.trans VV.out.2 (Since.of HK3.out)⟩)
      have y12 : w3.cell? ⟨bb, 12, none⟩ = some (.int .i64 ex) := (blk_cell HBK3.out 12).trans rfl
      have hb3 := (HVO.out.2.block q (blk_lt HB.out) (by have := blk_lt HB.out; omega)).trans HB.out
      have c3 := (blk_cell hb3 3).trans rfl
      obtain ⟨d, hd⟩ : ∃ d, decide ((v : Int) ∈ (RI.x ⟨⟨op, a, b, c, nn, args, kk, kn, ks, names, pf, pl, ex, once⟩, A2, ca2, N2, cn2⟩).uses) = d := ⟨_, rfl⟩
      have HVS := Lib.hid (usesTo_succ T v k)
      have HLL := Lib.hid hL
      have HUA := Lib.hid (show T.usedAt v k = (d || (decide (0 ≤ ex) && (T.ext k).names (v : Int))) from by
        unfold TR.usedAt
        rw [← HX.out, hd])
      try rw [hd]
      clear HI hb3 VV HT HT2 HK2 HBK
      cases d with
      | true =>
        clear hd
        have HE := Lib.hid (show T.usesTo v (k + 1) = T.usesTo v k ++ [k] from by rw [HVS.out, HUA.out]; rfl)
        go_wp2_with (at_builtin; refine wpList_append_src 22 3 _ 8 w1.heap.size Tryd.ints1 _ _ rfl rfl _ L (ints (nats (T.usesTo v k))) rfl (by exact HVO.out.1.alloc _) _ 1 1 (ints [(k : Int)]) rfl (by intro h; cases h) (by exact cells_new _ _ _) (ints_one _) (by omega) (by decide) (by have := HVO.out.2.size; simp; omega) ?_)
        intro v' w5 hown hgr hnil hblk
        obtain ⟨R', c', rfl⟩ := own_slice hown
        have HY := Lib.hid (show w5.ownsRow w1.heap.size 3 1 (.slice R' (T.usesTo v (k + 1)).length c') (T.usesTo v (k + 1)).length (ints (nats (T.usesTo v (k + 1)))) ∧ Since w1.heap.size w1 w5 from ⟨by
          rw [HE.out, List.length_append, HLL.out]
          unfold nats at hown ⊢
          rw [List.map_append, ints_append]
          exact hown, (Keep.trans HVO.out.2 (Since.of ((Keep.refl _ _).alloc' _))).grown hgr (fun k e => .inl (own_low HVO.out.1 e))⟩)
        have HLN := Lib.hid (show (T.usesTo v (k + 1)).length = L + 1 by rw [HE.out, List.length_append, HLL.out]; rfl)
        clear hown hgr hnil hblk
        go_wp2_with fail
        exact ⟨⟨k + 1, by omega, by go_num, R', c', by rw [HLN.out], by have h5 := HY; rw [HLN.out] at h5 ⊢; exact h5⟩, by simp [RowKit.intOf]; omega⟩
      | false =>
        clear hd
        by_cases hex : 0 ≤ ex
        · obtain ⟨en, rfl⟩ : ∃ en : Nat, ex = (en : Int) := ⟨ex.toNat, by omega⟩
          have hgx := HR.out.good.exit k (by rw [HN.out]; exact hlt) (by rw [← HX.out]; exact hex)
          have hem : en < M := by
            have h1 := hgx.1
            rw [← HX.out, HM.out] at h1
            simp only at h1
            omega
          have hemd : decide (en < M) = true := by simpa using hem
          obtain ⟨gE, hE, hxx, hxm, hxc⟩ := HT3.out.cellsX (k := en) (by rw [HM.out]; exact hem)
          have hext : T.ext k = (X.getD en RX.dflt).x := by
            unfold TR.ext
            rw [hxx, ← HX.out]
            rfl
          obtain ⟨rx, hrx⟩ : ∃ rx, X.getD en RX.dflt = rx := ⟨_, rfl⟩
          rw [hrx] at hxm hxc hext
          have hfx := HT3.out.fitX _ hxm
          have hok := hgx.2
          rw [hext] at hok
          have hFl : rx.F.length ≤ 1000 := by
            have h1 := congrArg List.length hfx.2.2
            rw [List.length_map] at h1
            have := hok.many
            omega
          have hFv : ∀ f ∈ rx.F, f.x.vars.length ≤ 1000000 := fun f hf => by
            have h1 : f.x ∈ rx.x.frames := by rw [← hfx.2.2]; exact List.mem_map_of_mem hf
            have := (hok.each _ h1).2.2.1
            omega
          have HMN := Lib.hid (mentions_any rx hfx hFl hFv (v : Int))
          have x0 : w3.cell? ⟨gE, en * 3, none⟩ = some (.slice rx.A rx.F.length rx.c) := (hxc 0 (by omega)).trans rfl
          have x1 : w3.cell? ⟨gE, en * 3 + 1, none⟩ = some (.slice none 0 0) := (hxc 1 (by omega)).trans rfl
          have x2 : w3.cell? ⟨gE, en * 3 + 2, none⟩ = some (.int .i64 rx.x.back) := (hxc 2 (by omega)).trans rfl
          rw [hE] at c3
          have HUA2 := Lib.hid (show T.usedAt v k = rx.x.names (v : Int) from by rw [HUA.out, hext]; simp)
          clear hgx hE hxx hxm hxc hext hrx hfx hok hFl hFv HT3
          go_wp2_with fail
          ((refine (show Calls Tryd.prog _ #[.agg rx.cells.toArray, .int .i64 (v : Int)] w3 _ from HMN.out).mono ?_); rintro ee w4 ⟨rfl, hk4⟩)
          replace HVO := Lib.hid (show w4.ownsRow w1.heap.size 3 1 (.slice RR L cc) L (ints (nats (T.usesTo v k))) ∧ Since w1.heap.size w1 w4 from ⟨hk4.own HVO.out.1 (fun _ _ => id), Keep.trans HVO.out.2 (Since.of hk4)⟩)
          obtain ⟨d, hd⟩ : ∃ d, rx.x.names (v : Int) = d := ⟨_, rfl⟩
          rw [hd] at HUA2 ⊢
          clear hd hk4 HMN x0 x1 x2 y12 c3
          cases d with
          | true =>
            have HE := Lib.hid (show T.usesTo v (k + 1) = T.usesTo v k ++ [k] from by rw [HVS.out, HUA2.out]; rfl)
            go_wp2_with (at_builtin; refine wpList_append_src 22 3 _ 8 w1.heap.size Tryd.ints1 _ _ rfl rfl _ L (ints (nats (T.usesTo v k))) rfl (by exact HVO.out.1.alloc _) _ 1 1 (ints [(k : Int)]) rfl (by intro h; cases h) (by exact cells_new _ _ _) (ints_one _) (by omega) (by decide) (by have := HVO.out.2.size; simp; omega) ?_)
            intro v' w5 hown hgr hnil hblk
            obtain ⟨R', c', rfl⟩ := own_slice hown
            have HY := Lib.hid (show w5.ownsRow w1.heap.size 3 1 (.slice R' (T.usesTo v (k + 1)).length c') (T.usesTo v (k + 1)).length (ints (nats (T.usesTo v (k + 1)))) ∧ Since w1.heap.size w1 w5 from ⟨by
              rw [HE.out, List.length_append, HLL.out]
              unfold nats at hown ⊢
              rw [List.map_append, ints_append]
              exact hown, (Keep.trans HVO.out.2 (Since.of ((Keep.refl _ _).alloc' _))).grown hgr (fun k e => .inl (own_low HVO.out.1 e))⟩)
            have HLN := Lib.hid (show (T.usesTo v (k + 1)).length = L + 1 by rw [HE.out, List.length_append, HLL.out]; rfl)
            clear hown hgr hnil hblk
            go_wp2_with fail
            exact ⟨⟨k + 1, by omega, by go_num, R', c', by rw [HLN.out], by have h5 := HY; rw [HLN.out] at h5 ⊢; exact h5⟩, by simp [RowKit.intOf]; omega⟩
          | false =>
            have HE := Lib.hid (show T.usesTo v (k + 1) = T.usesTo v k from by rw [HVS.out, HUA2.out]; simp)
            go_wp2_with fail
            exact ⟨⟨k + 1, by omega, by go_num, RR, cc, by rw [HE.out, HLL.out], by rw [HE.out, HLL.out]; exact HVO⟩, by simp [RowKit.intOf]; omega⟩
        · have hexd : decide (0 ≤ ex) = false := by simpa using hex
          have HE := Lib.hid (show T.usesTo v (k + 1) = T.usesTo v k from by rw [HVS.out, HUA.out, hexd]; simp)
          go_wp2_with fail
          exact ⟨⟨k + 1, by omega, by go_num, RR, cc, by rw [HE.out, HLL.out], by rw [HE.out, HLL.out]; exact HVO⟩, by simp [RowKit.intOf]; omega⟩
    · have hb1 : decide (k < N) = false := by simpa using hlt
      obtain rfl : k = N := by omega
      have HFN := Lib.hid (show IntsAt wo RR L (nats (T.usesTo v k)) from by
        have h9 := (Lies.own VV.out.1 (by decide) (by omega)).1
        rw [Nat.mul_one] at h9
        exact h9)
      have HLL := Lib.hid hL
      clear hbo
      go_wp2_with fail
      go_ret
      refine ⟨⟨RR, cc, by rw [HLL.out]; rfl, by rw [HLL.out]; exact HFN.out⟩, ?_⟩
      exact Keep.trans (Since.of HK.out) (Since.mono VV.out.2 HK.out.size)
end
end Go.Proofs.YtnbpgipbfejllaaDoor
