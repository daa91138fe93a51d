/- The reference's constant: it answers. -/
import Derived.Test.YtnbpgipbfejllaaDoorMG16
import Derived.Test.YtnbpgipbfejllaaDoorMG29
namespace Go.Proofs.YtnbpgipbfejllaaDoor
open Go.RowKit Go.Lib
set_option linter.unusedVariables false
set_option linter.unusedSimpArgs false

def IsB (e : Ending) : Prop := ∃ b : Bool, e = .returned (.bool b)
section
variable {w w' : World} {A : Option Addr} {ca : Nat} {E : Option Addr} {ce : Nat} {R : List RI} {X : List RX} {T : TR}
set_option maxRecDepth 100000 in
set_option maxHeartbeats 8000000 in
theorem const22_any {P : Nat} (h : TA w A ca E ce R X T) (hr : RightT P T) {k : Nat} (hk : k < T.ins.length) : Calls Tryd.prog 51 #[trV A ca E ce T, .int .i64 (k : Int)] w fun e w' => IsB e ∧ Keep (fun _ => False) w w' := by
  have HR := Lib.hid hr
  have HKN := Lib.hid hk
  have hfew := hr.few
  have HK := Lib.hid ((Keep.refl (fun _ => False) w).alloc' (.cells #[.int .i64 T.pf, .int .i64 T.pl, .slice A T.ins.length ca, .slice E T.exits.length ce] 31))
  have HT := Lib.hid (h.quiet HK.out)
  have HB := Lib.hid (heap_alloc_new w (.cells #[.int .i64 T.pf, .int .i64 T.pl, .slice A T.ins.length ca, .slice E T.exits.length ce] 31))
  obtain ⟨N, hN⟩ : ∃ N, T.ins.length = N := ⟨_, rfl⟩
  obtain ⟨M, hM⟩ : ∃ M, T.exits.length = M := ⟨_, rfl⟩
  have HN := Lib.hid hN
  unfold trV
  rw [hN] at hfew hk
  rw [hN, hM] at HK HB HT
  rw [hN, hM]
  clear h hr hN hM
  go_enter Tryd.func51, Tryd.ntmps51
  go_upto_region 1 with (fail)
  obtain ⟨w1, hw1⟩ : ∃ w1 : World, w.alloc (.cells #[.int .i64 T.pf, .int .i64 T.pl, .slice A N ca, .slice E M ce] 31) = w1 := ⟨_, rfl⟩
  obtain ⟨q, hq⟩ : ∃ q, w.heap.size = q := ⟨_, rfl⟩
  rw [hw1] at HB HK HT
  rw [hq] at HB
  rw [hw1, hq]
  clear hw1 hq
  obtain ⟨g, rfl, _, hx, hm, hc⟩ := HT.out.cellsI HKN.out
  have hft := HT.out.fitR _ hm
  obtain ⟨r, hrr⟩ : ∃ r, R.getD k RI.dflt = r := ⟨_, rfl⟩
  rw [hrr] at hx hc hft
  obtain ⟨⟨op, a, b, c, nn, args, kk, kn, ks, names, pf, pl, ex, once⟩, A2, ca2, N2, cn2⟩ := r
  have z0 : w1.cell? ⟨g, k * 14, none⟩ = some (.int .i64 op) := (hc 0 (by omega)).trans rfl
  have z1 : w1.cell? ⟨g, k * 14 + 1, none⟩ = some (.int .i64 a) := (hc 1 (by omega)).trans rfl
  have z2 : w1.cell? ⟨g, k * 14 + 2, none⟩ = some (.int .i64 b) := (hc 2 (by omega)).trans rfl
  have z3 : w1.cell? ⟨g, k * 14 + 3, none⟩ = some (.int .i64 c) := (hc 3 (by omega)).trans rfl
  have z4 : w1.cell? ⟨g, k * 14 + 4, none⟩ = some (.int .i64 nn) := (hc 4 (by omega)).trans rfl
  have z5 : w1.cell? ⟨g, k * 14 + 5, none⟩ = some (.slice A2 args.length ca2) := (hc 5 (by omega)).trans rfl
  have z6 : w1.cell? ⟨g, k * 14 + 6, none⟩ = some (.int .i64 kk) := (hc 6 (by omega)).trans rfl
  have z7 : w1.cell? ⟨g, k * 14 + 7, none⟩ = some (.int .i64 kn) := (hc 7 (by omega)).trans rfl
  have z8 : w1.cell? ⟨g, k * 14 + 8, none⟩ = some (.string (sb ks)) := (hc 8 (by omega)).trans rfl
  have z9 : w1.cell? ⟨g, k * 14 + 9, none⟩ = some (.slice N2 names.length cn2) := (hc 9 (by omega)).trans rfl
  have z10 : w1.cell? ⟨g, k * 14 + 10, none⟩ = some (.int .i64 pf) := (hc 10 (by omega)).trans rfl
  have z11 : w1.cell? ⟨g, k * 14 + 11, none⟩ = some (.int .i64 pl) := (hc 11 (by omega)).trans rfl
  have z12 : w1.cell? ⟨g, k * 14 + 12, none⟩ = some (.int .i64 ex) := (hc 12 (by omega)).trans rfl
  have z13 : w1.cell? ⟨g, k * 14 + 13, none⟩ = some (.bool once) := (hc 13 (by omega)).trans rfl
  have d2 := (blk_cell HB.out 2).trans rfl
  have HX := Lib.hid hx
  have HFT := Lib.hid hft
  clear hrr hm hc hx hft
  go_upto_region 2 with (fail)
  have hblk := heap_alloc_new w1 (.cells #[.int .i64 op, .int .i64 a, .int .i64 b, .int .i64 c, .int .i64 nn, .slice A2 args.length ca2, .int .i64 kk, .int .i64 kn, .string (sb ks), .slice N2 names.length cn2, .int .i64 pf, .int .i64 pl, .int .i64 ex, .bool once] 60)
  have hK2 := (Keep.refl (fun _ => False) w1).alloc' (.cells #[.int .i64 op, .int .i64 a, .int .i64 b, .int .i64 c, .int .i64 nn, .slice A2 args.length ca2, .int .i64 kk, .int .i64 kn, .string (sb ks), .slice N2 names.length cn2, .int .i64 pf, .int .i64 pl, .int .i64 ex, .bool once] 60)
  obtain ⟨bi, hbi⟩ : ∃ bb, w1.heap.size = bb := ⟨_, rfl⟩
  obtain ⟨w2, hw2⟩ : ∃ w2 : World, w1.alloc (.cells #[.int .i64 op, .int .i64 a, .int .i64 b, .int .i64 c, .int .i64 nn, .slice A2 args.length ca2, .int .i64 kk, .int .i64 kn, .string (sb ks), .slice N2 names.length cn2, .int .i64 pf, .int .i64 pl, .int .i64 ex, .bool once] 60) = w2 := ⟨_, rfl⟩
  rw [hw2] at hblk hK2
  rw [hbi] at hblk
  rw [hw2, hbi]
  have HK2 := Lib.hid (Keep.trans HK.out hK2)
  have HB2 := Lib.hid ((hK2.block q (blk_lt' HB.out) id).trans HB.out)
  have HT2 := Lib.hid (HT.out.quiet hK2)
  have HBI := Lib.hid hblk
  have HU := Lib.hid (show Calls Tryd.prog 56 #[.agg #[.int .i64 op, .int .i64 a, .int .i64 b, .int .i64 c, .int .i64 nn, .slice A2 args.length ca2, .int .i64 kk, .int .i64 kn, .string (sb ks), .slice N2 names.length cn2, .int .i64 pf, .int .i64 pl, .int .i64 ex, .bool once]] w2 _ from used_any ⟨⟨op, a, b, c, nn, args, kk, kn, ks, names, pf, pl, ex, once⟩, A2, ca2, N2, cn2⟩ (RI.Fits.keep HFT.out hK2 (fun _ _ _ => id) (fun _ _ _ => id)))
  have HUV := Lib.hid (show ∀ v ∈ (RI.x ⟨⟨op, a, b, c, nn, args, kk, kn, ks, names, pf, pl, ex, once⟩, A2, ca2, N2, cn2⟩).uses, VB T k v from by rw [HX.out]; exact (HR.out.good.shape k HKN.out).1.uses_vb)
  have HUF := Lib.hid (show (RI.x ⟨⟨op, a, b, c, nn, args, kk, kn, ks, names, pf, pl, ex, once⟩, A2, ca2, N2, cn2⟩).uses.length ≤ 4 from by rw [HX.out]; exact (HR.out.good.shape k HKN.out).1.uses_few HR.out.p1.2)
  dsimp only at HU HUV HUF
  obtain ⟨us, hus⟩ : ∃ us, TI.uses ⟨op, a, b, c, nn, args, kk, kn, ks, names, pf, pl, ex, once⟩ = us := ⟨_, rfl⟩
  rw [hus] at HU HUV HUF
  have y0 := (blk_cell hblk 0).trans rfl
  have y1 := (blk_cell hblk 1).trans rfl
  have y2 := (blk_cell hblk 2).trans rfl
  have y3 := (blk_cell hblk 3).trans rfl
  have y4 := (blk_cell hblk 4).trans rfl
  have y5 := (blk_cell hblk 5).trans rfl
  have y6 := (blk_cell hblk 6).trans rfl
  have y7 := (blk_cell hblk 7).trans rfl
  have y8 := (blk_cell hblk 8).trans rfl
  have y9 := (blk_cell hblk 9).trans rfl
  have y10 := (blk_cell hblk 10).trans rfl
  have y11 := (blk_cell hblk 11).trans rfl
  have y12 := (blk_cell hblk 12).trans rfl
  have y13 := (blk_cell hblk 13).trans rfl
  clear hus hblk hK2 hbi hw2 d2 z0 z1 z2 z3 z4 z5 z6 z7 z8 z9 z10 z11 z12 z13
  by_cases hop : op = 2 ∨ op = 4 ∨ op = 3
  · have o1 : ((op == 2) || ((op == 4) || (op == 3))) = true := by simpa using hop
    go_cut [25] from 8 (fun t wx => t = .bool false ∧ Hid (w2 = wx))
    case first =>
      rcases hop with rfl | rfl | rfl
      all_goals
        go_wp2_with fail
        go_meet
        exact ⟨rfl, Lib.hid rfl⟩
    case rest =>
      obtain ⟨rfl, hcc⟩ := hcut
      obtain rfl := hcc.out
      go_wp2_with fail
      ((with_reducible refine HU.out.mono ?_); rintro ee w3 ⟨Au, cu, rfl, hiu, hk3⟩)
      have HIU := Lib.hid hiu
      have HK3 := Lib.hid (Keep.trans HK2.out hk3)
      have HB3 := Lib.hid ((hk3.block q (blk_lt' HB2.out) id).trans HB2.out)
      have HT3 := Lib.hid (HT2.out.quiet hk3)
      clear hk3 hiu HU y0 y1 y2 y3 y4 y5 y6 y7 y8 y9 y10 y11 y12 y13
      obtain ⟨L, hL⟩ : ∃ L, us.length = L := ⟨_, rfl⟩
      rw [hL] at HIU HUF
      rw [hL]
      have HLL := Lib.hid hL
      have hL4 := HUF.out
      clear hL
      go_wp2_with fail
      go_loopw [7] (fun i wr => ∃ j : Nat, j ≤ L ∧ i = .int .i64 (j : Int) ∧ Hid (Keep (fun _ => False) w3 wr)) (fun i _ => L + 1 - (RowKit.intOf i).toNat)
      case atStart => exact ⟨0, Nat.zero_le _, rfl, Lib.hid (Keep.refl _ _)⟩
      case round =>
        obtain ⟨j, hj, rfl, HW⟩ := hrel
        obtain ⟨wo, rfl⟩ : ∃ wo : World, wo = wr := ⟨_, rfl⟩
        by_cases hlt : j < L
        · have hb1 : decide (j < L) = true := by simpa using hlt
          obtain ⟨bu, ou, rfl, u0⟩ := (show IntsAt wo Au L us from CellsAt.keep HIU.out HW.out (fun _ _ => id)).at_ j hlt
          have hvb : VB T k (us.getD j 0) := HUV.out _ (getD_mem (by rw [HLL.out]; exact hlt))
          obtain ⟨v, hv⟩ : ∃ v, us.getD j 0 = v := ⟨_, rfl⟩
          rw [hv] at u0 hvb
          obtain ⟨u, rfl, huk, hop9⟩ := hvb
          have huN : u < N := by omega
          obtain ⟨g9, e9, _, hx9, _, hc9⟩ := (HT3.out.quiet HW.out).cellsI (k := u) (by rw [HN.out]; exact huN)
          obtain rfl : g = g9 := by
            have := Option.some.inj e9
            injection this with a
          have d2 := (blk_cell ((HW.out.block q (blk_lt' HB3.out) id).trans HB3.out) 2).trans rfl
          obtain ⟨r9, hr9⟩ : ∃ r, R.getD u RI.dflt = r := ⟨_, rfl⟩
          rw [hr9] at hc9
          have z13 : wo.cell? ⟨g, u * 14 + 13, none⟩ = some (.bool r9.x.once) := (hc9 13 (by omega)).trans rfl
          obtain ⟨on9, ho9⟩ : ∃ o, r9.x.once = o := ⟨_, rfl⟩
          rw [ho9] at z13
          have huN2 : decide (u < N) = true := by simpa using huN
          clear hv hop9 e9 hx9 hc9 hr9 ho9
          cases on9 with
          | true =>
            go_wp2_with fail
            go_quiet (fail)
            go_wp2_with fail
            exact ⟨⟨j + 1, by omega, by go_num, Lib.hid (Keep.trans HW.out (keep_drewN _ _ _))⟩, by simp [RowKit.intOf]; omega⟩
          | false =>
            go_wp2_with fail
            go_quiet (fail)
            go_wp2_with fail
            go_ret
            exact ⟨⟨_, rfl⟩, Keep.trans HK3.out (Keep.trans HW.out (keep_drewN _ _ _))⟩
        · have hb1 : decide (j < L) = false := by simpa using hlt
          go_wp2_with fail
          go_ret
          exact ⟨⟨_, rfl⟩, Keep.trans HK3.out HW.out⟩
  · have b2 : (op == 2) = false := by simpa using fun h => hop (.inl h)
    have b4 : (op == 4) = false := by simpa using fun h => hop (.inr (.inl h))
    have b3 : (op == 3) = false := by simpa using fun h => hop (.inr (.inr h))
    have c2 : (op != 2) = true := by simpa using fun h => hop (.inl h)
    have c4 : (op != 4) = true := by simpa using fun h => hop (.inr (.inl h))
    have c3 : (op != 3) = true := by simpa using fun h => hop (.inr (.inr h))
    clear hop
    go_wp2_with fail
    all_goals (go_ret; exact ⟨⟨_, rfl⟩, HK2.out⟩)
end
end Go.Proofs.YtnbpgipbfejllaaDoor
