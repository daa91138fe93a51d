/- AccountSums: sums are those of the reference implementation; those of two lists are the sums of both, and the order does not matter: for all lists and every number of tenants the law returns true. -/
import Derived.Test.YtbbeoeoengogpaaU9
import Derived.Test.YtbbeoeoengogpaaAM
import Derived.Test.YtbbeoeoengogpaaUO
namespace Go.Proofs.Ytbbeoeoengogpaa
open Go.ChangeShapes Go.WideShapes Go.ChangeAt Go.RowKit
set_option linter.unusedVariables false

theorem equal_refl {A1 A2 : Option Addr} {n1 n2 c1 c2 : Nat} {xs : List Int} {w : World} (h1 : IntsAt w A1 n1 xs) (h2 : IntsAt w A2 n2 xs) :
    Calls Try.prog 15 #[.slice A1 n1 c1, .slice A2 n2 c2] w fun e w' => e = .returned (.bool true) ∧ Since w.heap.size w w' := by
  refine (equal_any A1 A2 n1 n2 c1 c2 xs xs w h1 h2).mono ?_
  rintro e w' ⟨rfl, k, rfl⟩
  exact ⟨by simp, since_draw _ _ _⟩
/-- An owned row of ints, wherever it lies. -/
def OR (W : World) (v : Value) (xs : List Int) : Prop := ∃ base, W.ownsRow base 3 1 v xs.length (ints xs)
theorem OR.since {W W' : World} {v : Value} {xs : List Int} (h : OR W v xs) (hk : Since W.heap.size W W') : OR W' v xs := let ⟨b, ho⟩ := h; ⟨b, hk.own ho (fun k e => by have := own_lt ho k e; omega)⟩
theorem OR.at_ {W : World} {v : Value} {xs : List Int} (h : OR W v xs) : ∃ A c, v = .slice A xs.length c ∧ IntsAt W A xs.length xs := let ⟨_, ho⟩ := h; owns_cells ho
structure MS (w : World) (Aa : Option Addr) (na ca : Nat) (ea : List Ent) (Ab : Option Addr) (nb cb : Nat) (eb : List Ent) (Ac : Option Addr) (cc : Nat) (Ad : Option Addr) (cd : Nat) (ed : List Ent) (L : Nat) (ys : List Int) (W : World) : Prop where
  a : RowE W Aa na ca ea
  b : RowE W Ab nb cb eb
  c : RowE W Ac (na + nb) cc (ea ++ eb)
  d : RowE W Ad (na + nb) cd ed
  l : IntsAt W (some ⟨L, 0, none⟩) 7 ys
  ll : L < W.heap.size
  since : Since w.heap.size w W
theorem MS.quiet {w Aa na ca ea Ab nb cb eb Ac cc Ad cd ed L ys} {W W' : World} (h : MS w Aa na ca ea Ab nb cb eb Ac cc Ad cd ed L ys W) (hk : Since W.heap.size W W') : MS w Aa na ca ea Ab nb cb eb Ac cc Ad cd ed L ys W' :=
  ⟨h.a.since hk, h.b.since hk, h.c.since hk, h.d.since hk, h.l.keep hk (fun b e hb => by cases e; have := h.ll; simp only at hb; omega), Nat.lt_of_lt_of_le h.ll hk.size, Keep.trans h.since (Since.mono hk h.since.size)⟩
theorem OR.cell {W : World} {A : Option Addr} {m c : Nat} {xs : List Int} (h : OR W (.slice A m c) xs) (hm : xs.length = m) (j : Nat) (hj : j < m) : ∃ b off, A = some ⟨b, off, none⟩ ∧ W.cell? ⟨b, off + j, none⟩ = some (.int .i64 (xs.getD j 0)) := by
  subst hm
  obtain ⟨A', c', e, hi⟩ := h.at_
  injection e with e1 _ e3
  subst e1 e3
  exact IntsAt.at_ hi j hj
set_option maxHeartbeats 8000000 in
set_option maxRecDepth 100000 in
theorem acc_sums_walk (A0 : Option Addr) (n0 c0 : Nat) (xs0 : List Int) (A1 : Option Addr) (n1 c1 : Nat) (xs1 : List Int) (x : Int) (w : World) (h0 : IntsAt w A0 n0 xs0) (h1 : IntsAt w A1 n1 xs1) (hn0 : n0 ≤ 140737488351232) (hn1 : n1 ≤ 140737488351232) :
    Calls Try.prog 9 #[.agg #[.slice A0 n0 c0, .slice A1 n1 c1], .int .i64 x] w fun e w' => e = .returned (.bool true) ∧ Below w.heap.size w w' := by
  have H0 := Lib.hid h0
  have H1 := Lib.hid h1
  clear h0 h1
  go_enter Try.func9, Try.ntmps9
  go_wp2_with fail
  have hka := Since.of (n := w.heap.size) ((Keep.refl (fun _ => False) w).alloc' (.cells #[.slice A0 n0 c0, .slice A1 n1 c1] 46))
  have hbl := heap_alloc_new w (.cells #[.slice A0 n0 c0, .slice A1 n1 c1] 46)
  obtain ⟨w0, hw0⟩ : ∃ w0, w.alloc (.cells #[.slice A0 n0 c0, .slice A1 n1 c1] 46) = w0 := ⟨_, rfl⟩
  obtain ⟨B, hB⟩ : ∃ B, w.heap.size = B := ⟨_, rfl⟩
  have HB := Lib.hid hB
  rw [hw0] at hka hbl
  rw [hB] at hbl
  rw [hw0, hB]
  clear hw0 hB
  ((with_reducible refine (sanity_any w0).mono ?_); rintro e w1 ⟨rfl, hk1⟩)
  have S1 := Lib.hid (Keep.trans hka (Since.mono (since_below hk1) hka.size))
  have hb1 := (hk1.block B (blk_lt hbl)).trans hbl
  have d0 := blk_cell hb1 0
  have d1 := blk_cell hb1 1
  have HBL := Lib.hid hb1
  simp only [List.getElem?_toArray, List.getElem?_cons_zero, List.getElem?_cons_succ] at d0 d1
  clear hka hbl hk1 hb1
  go_wp2_with fail
  have hsz := S1.out.size
  ((with_reducible refine (made_any (H0.out.below (below_since S1.out rfl)) hn0).mono ?_); rintro e w2 ⟨Aa, na, ca, ea, ia, rfl, ho2, hn2, hnil2, hil2, hk2⟩)
  have RA := Lib.hid (show RowE w2 Aa na ca ea from ⟨⟨_, ho2⟩, hnil2, by omega, hil2⟩)
  have S2 := Lib.hid (Keep.trans S1.out (Since.mono hk2 hsz))
  have hb2 := (hk2.block B (blk_lt HBL.out) (by have := blk_lt HBL.out; omega)).trans HBL.out
  have d1 := blk_cell hb2 1
  simp only [List.getElem?_toArray, List.getElem?_cons_zero, List.getElem?_cons_succ] at d1
  have na8 : na ≤ 8 := hn2
  clear ho2 hnil2 hil2 hk2 hn2 HBL
  go_wp2_with fail
  have hsz2 := S2.out.size
  ((with_reducible refine (made_any (H1.out.below (below_since S2.out rfl)) hn1).mono ?_); rintro e w3 ⟨Ab, nb, cb, eb, ib, rfl, ho3, hn3, hnil3, hil3, hk3⟩)
  have RB := Lib.hid (show RowE w3 Ab nb cb eb from ⟨⟨_, ho3⟩, hnil3, by omega, hil3⟩)
  have RA3 := Lib.hid (RA.out.since hk3)
  have S3 := Lib.hid (Keep.trans S2.out (Since.mono hk3 hsz2))
  have nb8 : nb ≤ 8 := hn3
  clear ho3 hnil3 hil3 hk3 hn3 d0 d1 hb2 RA
  go_wp2_with fail
  ((with_reducible refine (clone_ents RA3.out).mono ?_); rintro e w4 ⟨Ac, cc, rfl, hr4, hlo4, hk4⟩)
  have RC := Lib.hid hr4
  have RA4 := Lib.hid (RA3.out.since hk4)
  have RB4 := Lib.hid (RB.out.since hk4)
  have S4 := Lib.hid (Keep.trans S3.out (Since.mono hk4 S3.out.size))
  have LA4 := Lib.hid (show ∀ b, Aa = some b → b.block < w3.heap.size from RA3.out.lt)
  have LB4 := Lib.hid (show ∀ b, Ab = some b → b.block < w3.heap.size from RB.out.lt)
  have LC4 := Lib.hid (show ∀ k, (Value.slice Ac na cc).ownBlock = some k → w3.heap.size ≤ k from fun k e => by
    cases Ac with
    | none => simp [Value.ownBlock] at e
    | some b => have := hlo4 b rfl; simp [Value.ownBlock] at e; omega)
  have Z3 := Lib.hid (show w.heap.size ≤ w3.heap.size from S3.out.size)
  clear hr4 hlo4 hk4 RA3 RB S3
  go_wp2_with (at_builtin; refine wpList_append_ents rfl _ _ rfl rfl RC.out rfl RB4.out (by omega) ?_; intro Ae ce w5 hr5 hk5; have RE := Lib.hid hr5; have RA5 := Lib.hid (RA4.out.keep hk5 (fun b e hf => by have := LA4.out b e; have := LC4.out _ hf; omega)); have RB5 := Lib.hid (RB4.out.keep hk5 (fun b e hf => by have := LB4.out b e; have := LC4.out _ hf; omega)); have S5 := Lib.hid (Keep.trans S4.out (Keep.mono hk5 (fun k e => Nat.le_trans Z3.out (LC4.out k e)))); clear hr5 hk5 RC RA4 RB4 S4 LA4 LB4 LC4)
  ((with_reducible refine (clone_ents RE.out).mono ?_); rintro e w6 ⟨Ad, cd, rfl, hr6, hlo6, hk6⟩)
  have RD := Lib.hid hr6
  have RA6 := Lib.hid (RA5.out.since hk6)
  have RB6 := Lib.hid (RB5.out.since hk6)
  have RE6 := Lib.hid (RE.out.since hk6)
  have S6 := Lib.hid (Keep.trans S5.out (Since.mono hk6 S5.out.size))
  have LA6 := Lib.hid (show ∀ b, Aa = some b → b.block < w5.heap.size from RA5.out.lt)
  have LB6 := Lib.hid (show ∀ b, Ab = some b → b.block < w5.heap.size from RB5.out.lt)
  have LE6 := Lib.hid (show ∀ b, Ae = some b → b.block < w5.heap.size from RE.out.lt)
  have LD6 := Lib.hid (show ∀ k, (Value.slice Ad (na + nb) cd).ownBlock = some k → w5.heap.size ≤ k from fun k e => by
    cases Ad with
    | none => simp [Value.ownBlock] at e
    | some b => have := hlo6 b rfl; simp [Value.ownBlock] at e; omega)
  have Z5 := Lib.hid (show w.heap.size ≤ w5.heap.size from S5.out.size)
  clear hr6 hlo6 hk6 RA5 RB5 RE S5
  go_wp2_with fail
  ((with_reducible refine (reverse_ents RD.out).mono ?_); rintro e w7 ⟨rfl, ed, hr7, hsum, hk7⟩)
  have RD7 := Lib.hid hr7
  have HSUM := Lib.hid hsum
  have RA7 := Lib.hid (RA6.out.keep hk7 (fun b e hf => by have := LA6.out b e; have := LD6.out _ hf; omega))
  have RB7 := Lib.hid (RB6.out.keep hk7 (fun b e hf => by have := LB6.out b e; have := LD6.out _ hf; omega))
  have RE7 := Lib.hid (RE6.out.keep hk7 (fun b e hf => by have := LE6.out b e; have := LD6.out _ hf; omega))
  have S7 := Lib.hid (Keep.trans S6.out (Keep.mono hk7 (fun k e => Nat.le_trans Z5.out (LD6.out k e))))
  clear hr7 hsum hk7 RD RA6 RB6 RE6 S6 LA6 LB6 LE6 LD6 Z3 Z5
  go_wp2_with fail
  have hk8 := (Keep.refl (fun _ => False) w7).alloc' (.cells #[.int .i64 x, .int .i64 0, .int .i64 1, .int .i64 2, .int .i64 3, .int .i64 4, .int .i64 5] 3)
  have M8 := Lib.hid (show MS w Aa na ca ea Ab nb cb eb Ae ce Ad cd ed w7.heap.size [x, 0, 1, 2, 3, 4, 5] (w7.alloc (.cells #[.int .i64 x, .int .i64 0, .int .i64 1, .int .i64 2, .int .i64 3, .int .i64 4, .int .i64 5] 3)) from
    ⟨RA7.out.keep hk8 (fun _ _ => id), RB7.out.keep hk8 (fun _ _ => id), RE7.out.keep hk8 (fun _ _ => id), RD7.out.keep hk8 (fun _ _ => id), cells_new w7 (ints [x, 0, 1, 2, 3, 4, 5]) 3 (by simp [ints]), by simp, Keep.trans S7.out (Since.of hk8)⟩)
  obtain ⟨L, hL⟩ : ∃ L, w7.heap.size = L := ⟨_, rfl⟩
  obtain ⟨w8, hw8⟩ : ∃ w8, w7.alloc (.cells #[.int .i64 x, .int .i64 0, .int .i64 1, .int .i64 2, .int .i64 3, .int .i64 4, .int .i64 5] 3) = w8 := ⟨_, rfl⟩
  rw [hw8, hL] at M8
  rw [hw8, hL]
  clear hw8 hL hk8 RA7 RB7 RE7 RD7 S7
  obtain ⟨ys, hys⟩ : ∃ ys, ([x, 0, 1, 2, 3, 4, 5] : List Int) = ys := ⟨_, rfl⟩
  rw [hys] at M8
  clear hys
  go_loopw [42] (fun i wr => ∃ k : Nat, k ≤ 7 ∧ i = .int .i64 (k : Int) ∧ Hid (MS w Aa na ca ea Ab nb cb eb Ae ce Ad cd ed L ys wr)) (fun i _ => 8 - (intOf i).toNat)
  case atStart => exact ⟨0, Nat.zero_le _, rfl, M8⟩
  case round =>
    obtain ⟨k, hk, rfl, MM⟩ := hrel
    obtain ⟨wo, rfl⟩ : ∃ wo : World, wo = wr := ⟨_, rfl⟩
    clear M8
    by_cases hlt : k < 7
    · have hb : decide (k < 7) = true := by simpa using hlt
      obtain ⟨bf, of, e1, x0⟩ := IntsAt.at_ MM.out.l k hlt
      injection e1 with e1
      injection e1 with e1 e2
      subst e1 e2
      rw [Nat.zero_add] at x0
      obtain ⟨tv, htv⟩ : ∃ tv, ys.getD k 0 = tv := ⟨_, rfl⟩
      rw [htv] at x0
      have hk7 := hlt
      clear htv hlt
      go_wp2_with fail
      ((with_reducible refine (sums_all MM.out.a tv).mono ?_); rintro e wa ⟨va, rfl, hoa, hka⟩)
      have Ma := Lib.hid (MM.out.quiet hka)
      have Oa := Lib.hid (show OR wa va (SL tv ea) from ⟨_, hoa⟩)
      clear hoa hka x0
      go_wp2_with fail
      ((with_reducible refine (sums_all Ma.out.b tv).mono ?_); rintro e wb ⟨vb, rfl, hob, hkb⟩)
      have Mb := Lib.hid (Ma.out.quiet hkb)
      have Ob := Lib.hid (show OR wb vb (SL tv eb) from ⟨_, hob⟩)
      have Oa2 := Lib.hid (Oa.out.since hkb)
      clear hob hkb Oa Ma
      go_wp2_with fail
      ((with_reducible refine (sums_all Mb.out.c tv).mono ?_); rintro e wc ⟨vc, rfl, hoc, hkc⟩)
      have Mc := Lib.hid (Mb.out.quiet hkc)
      have Oc := Lib.hid (show OR wc vc (SL tv (ea ++ eb)) from ⟨_, hoc⟩)
      have Oa3 := Lib.hid (Oa2.out.since hkc)
      have Ob3 := Lib.hid (Ob.out.since hkc)
      clear hoc hkc Oa2 Ob Mb
      go_wp2_with fail
      ((with_reducible refine (ref_all Mc.out.c tv).mono ?_); rintro e wd ⟨vd, rfl, hod, hkd⟩)
      have Md := Lib.hid (Mc.out.quiet hkd)
      have Od := Lib.hid (show OR wd vd (SL tv (ea ++ eb)) from ⟨_, hod⟩)
      have Oa4 := Lib.hid (Oa3.out.since hkd)
      have Ob4 := Lib.hid (Ob3.out.since hkd)
      have Oc4 := Lib.hid (Oc.out.since hkd)
      clear hod hkd Oa3 Ob3 Oc Mc
      obtain ⟨Sd, zd, rfl, hid⟩ := Od.out.at_
      obtain ⟨Sc, zc, rfl, hic⟩ := Oc4.out.at_
      obtain ⟨Sa, za, rfl, hia⟩ := Oa4.out.at_
      obtain ⟨Sb, zb, rfl, hib⟩ := Ob4.out.at_
      have HQ := Lib.hid (equal_refl (c1 := zc) (c2 := zd) hic hid)
      clear hid hic hia hib Od
      go_wp2_with fail
      ((with_reducible refine HQ.out.mono ?_); rintro e we ⟨rfl, hke⟩)
      have Me := Lib.hid (Md.out.quiet hke)
      have Oa5 := Lib.hid (Oa4.out.since hke)
      have Ob5 := Lib.hid (Ob4.out.since hke)
      have Oc5 := Lib.hid (Oc4.out.since hke)
      clear hke HQ Oa4 Ob4 Oc4 Md
      go_wp2_with fail
      ((with_reducible refine (sums_all Me.out.d tv).mono ?_); rintro e wf ⟨vf, rfl, hof, hkf⟩)
      have hsame : SL tv ed = SL tv (ea ++ eb) := SL_same HSUM.out
      rw [hsame] at hof
      have Mf := Lib.hid (Me.out.quiet hkf)
      have Of := Lib.hid (show OR wf vf (SL tv (ea ++ eb)) from ⟨_, hof⟩)
      have Oa6 := Lib.hid (Oa5.out.since hkf)
      have Ob6 := Lib.hid (Ob5.out.since hkf)
      have Oc6 := Lib.hid (Oc5.out.since hkf)
      clear hof hkf Oa5 Ob5 Oc5 Me hsame
      obtain ⟨Sf, zf, rfl, hif⟩ := Of.out.at_
      obtain ⟨Sc', zc', e3, hic⟩ := Oc6.out.at_
      injection e3 with e3 _ e4
      subst e3 e4
      have HQ := Lib.hid (equal_refl (c1 := zf) (c2 := zc) hif hic)
      clear hif hic Of
      have hl1 := SL_len tv ea (ea ++ eb)
      have hl2 := SL_len tv eb (ea ++ eb)
      have hl4 := SL_len4 tv (ea ++ eb)
      obtain ⟨m, hm⟩ : ∃ m, (SL tv (ea ++ eb)).length = m := ⟨_, rfl⟩
      rw [hm] at hl1 hl2 hl4
      rw [hm, hl1, hl2]
      rw [hm] at HQ
      have HM := Lib.hid (And.intro hm (And.intro hl1 hl2))
      have hmm : ((m : Int) != (m : Int)) = false := by simp
      have hmn : (m != m) = false := by simp
      clear hm hl1 hl2
      go_wp2_with fail
      ((with_reducible refine HQ.out.mono ?_); rintro e wg ⟨rfl, hkg⟩)
      have hil : ∀ e ∈ ea ++ eb, e.IL ≤ 3 := Mf.out.c.il
      have hlen : (ea ++ eb).length ≤ 16 := by rw [Mf.out.c.len]; omega
      have hila : ∀ e ∈ ea, e.IL ≤ 3 := Mf.out.a.il
      have hilb : ∀ e ∈ eb, e.IL ≤ 3 := Mf.out.b.il
      have hlab : ea.length ≤ 16 ∧ eb.length ≤ 16 := by rw [List.length_append] at hlen; omega
      have IN0 := Lib.hid (And.intro (Mf.out.quiet hkg) (And.intro (Oa6.out.since hkg) (And.intro (Ob6.out.since hkg) (Oc6.out.since hkg))))
      have HAD := Lib.hid (And.intro (fun j (hj : j < m) => SL_add tv ea eb j (by rw [HM.out.1]; exact hj)) (And.intro (fun j => SL_bd tv ea hila j) (fun j => SL_bd tv eb hilb j)))
      have HLB := Lib.hid hlab
      rw [HM.out.1, HM.out.2.1, HM.out.2.2] at IN0
      clear hkg HQ Oa6 Ob6 Oc6 Mf hil hlen hila hilb hlab
      go_wp2_with fail
      go_loopw [85] (fun i wr => ∃ j : Nat, j ≤ m ∧ i = .int .i64 (j : Int) ∧ Hid (MS w Aa na ca ea Ab nb cb eb Ae ce Ad cd ed L ys wr ∧ OR wr (.slice Sa m za) (SL tv ea) ∧ OR wr (.slice Sb m zb) (SL tv eb) ∧ OR wr (.slice Sc m zc) (SL tv (ea ++ eb)))) (fun i _ => m + 1 - (intOf i).toNat)
      case atStart => exact ⟨0, Nat.zero_le _, rfl, IN0⟩
      case round =>
        obtain ⟨j, hj, rfl, IN⟩ := hrel
        obtain ⟨wi, rfl⟩ : ∃ wi : World, wi = wr := ⟨_, rfl⟩
        clear IN0
        by_cases hjm : j < m
        · have hb2 : decide (j < m) = true := by simpa using hjm
          obtain ⟨p1, q1, rfl, c1'⟩ := IN.out.2.1.cell HM.out.2.1 j hjm
          obtain ⟨p2, q2, rfl, c2'⟩ := IN.out.2.2.1.cell HM.out.2.2 j hjm
          obtain ⟨p3, q3, rfl, c3'⟩ := IN.out.2.2.2.cell HM.out.1 j hjm
          have hadd := HAD.out.1 j hjm
          have hba := HAD.out.2.1 j
          have hbb := HAD.out.2.2 j
          obtain ⟨la, lb⟩ := HLB.out
          obtain ⟨r1, hr1⟩ : ∃ r, (SL tv ea).getD j 0 = r := ⟨_, rfl⟩
          obtain ⟨r2, hr2⟩ : ∃ r, (SL tv eb).getD j 0 = r := ⟨_, rfl⟩
          rw [hr1] at c1' hadd hba
          rw [hr2] at c2' hadd hbb
          rw [← hadd] at c3'
          have hr12 : 0 ≤ r1 ∧ r1 ≤ 640 ∧ 0 ≤ r2 ∧ r2 ≤ 640 := by omega
          have hne : (r1 + r2 != r1 + r2) = false := by simp
          clear hadd hba hbb la lb hr1 hr2
          go_wp2_with fail
          go_quiet (fail)
          go_wp2_with fail
          have hq := since_draw wi.heap.size nq wi
          exact ⟨⟨j + 1, by omega, by go_num, Lib.hid ⟨IN.out.1.quiet hq, IN.out.2.1.since hq, IN.out.2.2.1.since hq, IN.out.2.2.2.since hq⟩⟩, by simp [intOf]; omega⟩
        · have hb2 : decide (j < m) = false := by simpa using hjm
          go_wp2_with fail
          exact ⟨⟨k + 1, by omega, by go_num, Lib.hid IN.out.1⟩, by simp [intOf]; omega⟩
    · have hb : decide (k < 7) = false := by simpa using hlt
      go_wp2_with fail
      go_ret
      exact ⟨rfl, below_since MM.out.since rfl⟩
set_option maxRecDepth 100000 in
theorem acc_sums_lifted (os : Os) (started : os.Started) (H : Type) (enc : TypeId × Value → H) :
    ReturnsInHanded {} Try.checked os 9 .any (Rows.accountSumsSpec.pre6 enc Try.prog Try.f9 Rows.accountSumsRow.domain false) (Rows.accountSumsSpec.post enc Try.prog Try.f9 false true false false) := by
  refine law_lift (C := Try.checked) Try.own started (by kernel_rfl) Try.func9
    (ChangeSpec.witness6 (enc := enc) (C := Try.checked) false ⟨#[], #[.agg #[.slice none 0 0, .slice none 0 0], .int .i64 0], []⟩ 8 (by kernel_rfl) (by kernel_rfl) (by kernel_rfl) (by kernel_rfl))
    Try.laidOut (by kernel_rfl) rfl rfl Try.underlying4 ?_ ?_
  · intro ds hl
    match ds, hl with
    | [d1, d2], _ => exact ⟨rfl, rfl, rfl⟩
  · intro W base args ds p hval0 hA0 hlt hsz0
    have hval : ∀ (j : Nat) t v, Try.f9.params[j]? = some t → args[j]? = some v → Value.okWide Try.prog W .any base t v := hval0
    have hA : DataW.TrodAll enc Try.prog W 0 (fun _ => true) true Try.f9.params.toList args.toList ds p := hA0
    have hsz : (DataW.weightsEach Try.prog Try.f9.params.toList ds).all (· ≤ reachBytes) = true := hsz0
    rw [Try.params9] at hA hval hsz
    clear hA0 hval0 hsz0
    obtain ⟨v0, v1, d0, d1, p0, p1, rfl, rfl, rfl, h0, h1⟩ := trodAll_two hA
    have hlt0 : ∀ x ∈ p0, x.block < W.heap.size := fun x hx => hlt x (by simp [hx])
    have hlt1 : ∀ x ∈ p1, x.block < W.heap.size := fun x hx => hlt x (by simp [hx])
    obtain ⟨A0, n0, c0, xs0, A1, n1, c1, xs1, rfl, i0, i1, b0, b1⟩ := open_two_ints Try.underlying46 Try.underlying22 Try.underlying3 (by kernel_rfl) (by kernel_rfl) (by kernel_rfl) (by kernel_rfl) (hval 0 46 v0 rfl rfl) h0 hlt0 (fun n hn => by have := List.all_eq_true.1 hsz n (DataW.weights_mem_each (j := 0) rfl rfl n hn); simpa using this)
    obtain ⟨x, rfl, rfl, rfl, wx⟩ := open_int Try.underlying3 (hval 1 3 v1 rfl rfl) h1
    exact acc_sums_walk A0 n0 c0 xs0 A1 n1 c1 xs1 x W i0 i1 b0 b1

/-- The statement. -/
theorem acc_sums_holds : Rows.AccountSumsSaid :=
  OpenClaim.holds_of_wide 9 Try.f9 rfl rfl rfl rfl rfl rfl rfl ⟨rfl, rfl, rfl, rfl, rfl⟩ rfl rfl rfl rfl rfl (by kernel_rfl) Try.func9 (by kernel_rfl)
    (of_decide_eq_true (by kernel_rfl)) (by unfold Func.isWrapper; first | (rw [if_pos (by decide +kernel)]; kernel_rfl) | (rw [if_neg (by decide +kernel)]; exact ⟨rfl, rfl⟩))
    (fun os started H enc _ => acc_sums_lifted os started H enc)
#print axioms acc_sums_holds
end Go.Proofs.Ytbbeoeoengogpaa
