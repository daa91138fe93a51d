/- JournalCrashes: wherever the power fails, and whatever survives. -/
import Derived.Test.YtbmmcdnmbdoglaaJ20
import Derived.Test.YtbmmcdnmbdoglaaKU
import Derived.Test.YtbmmcdnmbdoglaaKS
import Derived.Test.YtbmmcdnmbdoglaaKL
import Derived.Deep.RegionHeld3
namespace Go.Proofs.Ytbmmcdnmbdoglaa
open Go.ChangeShapes Go.WideShapes Go.ChangeAt Go.RowKit
set_option linter.unusedVariables false

theorem qj_more {w0 w : World} {n mp jp p C B C' B' : Nat} (h : QJ w0 n mp w jp p C B) (hc : C ≤ C') (hb : B ≤ B') : QJ w0 n mp w jp p C' B' := by
  obtain ⟨hs, Y, l, h1, h2, h3⟩ := h
  exact ⟨hs, Y, l, h1.more hc, h2, by omega⟩

set_option maxHeartbeats 2000000 in
set_option maxRecDepth 100000 in
theorem crashes_walk (A : Option Addr) (n c : Nat) (l : List Bytes) (FA : Option Addr) (nf cf : Nat) (fs : List Int) (SV : Option Addr) (ns cs : Nat) (sv : List Int) (w : World) (hA : StrsAt w A n l) (hlm : ∀ s ∈ l, s.length ≤ maxLen)
    (hF : CellsAt w FA nf (fs.map (Value.int .u8))) (hfs : ∀ x ∈ fs, 0 ≤ x ∧ x ≤ 255) (hS : IntsAt w SV ns sv) (hsv : ∀ x ∈ sv, -9223372036854775808 ≤ x ∧ x ≤ 9223372036854775807) :
    Calls Try.prog 4 #[.slice A n c, .slice FA nf cf, .slice SV ns cs] w fun e w' => e = .returned (.bool true) ∧ Below w.heap.size w w' := by
  have hnl := hA.2.1
  have hnf := hF.2.1
  have HA := Lib.hid hA; have HLM := Lib.hid hlm; have HSV := Lib.hid hS; have HSB := Lib.hid hsv; have HFA := Lib.hid hF; have HFS := Lib.hid hfs
  have HLEN := Lib.hid hA.len
  clear hA hlm hS hsv hF hfs
  go_enter Try.func4, Try.ntmps4
  go_wp2_with fail
  refine (sanity_any w).mono ?_
  rintro e w1 ⟨rfl, hs1⟩
  have S1 := Lib.hid hs1; clear hs1
  go_wp2_with fail
  ((with_reducible refine (new_GD w1).mono ?_); rintro e w2 ⟨rfl, hd2, hs2⟩)
  have D2 := Lib.hid hd2; have S2 := Lib.hid (Keep.trans S1.out (Since.mono hs2 S1.out.size)); have L1 := Lib.hid S1.out.size; clear hd2 hs2
  go_wp2_with fail
  have h3 := open_GD D2.out (by decide)
  ((with_reducible refine h3.mono ?_); rintro e w3 ⟨jp0, A3, c3, rfl, hj3, hk3, _, _, _⟩)
  have J3 := Lib.hid hj3; have S3 := Lib.hid (Keep.trans S2.out (Since.mono hk3.since L1.out))
  clear hj3 hk3 h3 D2 S2
  go_wp2_with fail
  have h4 := new_M w3 w1.heap.size J3.out.le
  ((with_reducible refine h4.mono ?_); rintro e w4 ⟨rfl, hm4, hs4⟩)
  have HI0 := Lib.hid (show QJ w w1.heap.size w3.heap.size w4 jp0 w1.heap.size (1 + 4 * 0) (216 * 0) from
    ⟨Keep.trans S3.out (Since.mono hs4 S3.out.size), _, [], J3.out.later (Y := fun k => k = w3.heap.size) hs4 (fun k hk => ⟨(hm4.lt k hk).2, .inr (by show w3.heap.size ≤ k; have : k = w3.heap.size := hk; omega)⟩), hm4, Nat.le_refl _⟩)
  clear hm4 hs4 h4 J3 S3
  obtain ⟨mp, hmp⟩ : ∃ mp, w3.heap.size = mp := ⟨_, rfl⟩
  rw [hmp] at HI0 ⊢
  clear hmp
  go_wp2_with fail
  go_loopw [8, 9, 11, 13] (fun dv jv ev i wr => ∃ (k p jp : Nat), k ≤ 20 ∧ k ≤ n ∧ dv = .pointer (some ⟨p, 0, none⟩) ∧ jv = .pointer (some ⟨jp, 0, none⟩) ∧ ev = .int .i64 0 ∧ i = .int .i64 (k : Int) ∧ Hid (QJ w w1.heap.size mp wr jp p (1 + 4 * k) (216 * k))) (fun _ _ _ i _ => 21 - (intOf i).toNat)
  case atStart => exact ⟨0, _, _, by omega, by omega, rfl, rfl, rfl, rfl, HI0⟩
  case round =>
    obtain ⟨k, p, jp, hk, hkn, rfl, rfl, rfl, rfl, HI⟩ := hrel
    obtain ⟨wo, rfl⟩ : ∃ wo : World, wo = wr := ⟨_, rfl⟩
    by_cases hlt : k < n ∧ k < 20
    · have hl1 := hlt.1
      have hl2 := hlt.2
      have b1 : decide (k < n) = true := by simpa using hl1
      have b2 : decide (k < 20) = true := by simpa using hl2
      obtain ⟨bb, off, rfl, xw⟩ := HA.out.at_ k hl1
      have hbw := World.block_lt_of_cell? _ _ xw
      have hsz := str_size HLM.out k
      obtain ⟨t, ht⟩ : ∃ t, sb (l.getD k []) = t := ⟨_, rfl⟩
      rw [ht] at xw hsz
      have XW := Lib.hid xw; have BW := Lib.hid hbw
      have hcell : ∀ wx, Since w.heap.size w wx → wx.cell? ⟨bb, off + k, none⟩ = some (.string t) := fun wx hs => (hs.cell (p := ⟨bb, off + k, none⟩) BW.out (fun h' => by have := BW.out; simp only at h' this; omega)).trans XW.out
      have HC := Lib.hid hcell
      clear hlt ht xw hbw hcell
      by_cases hf0 : nf = 0
      · have b3 : decide (0 < nf) = false := by simp; omega
        have b4 : ¬ 0 < nf := by omega
        have HX := Lib.hid (qj_qf HI.out)
        have x0 := HC.out _ HX.out.1
        clear hf0
        go_wp2_with fail
        ((with_reducible refine (short_any _ t hsz).mono ?_); rintro e wx ⟨rfl, rfl⟩)
        go_wp2_with fail
        have h6 := qf_append HX.out L1.out (sh t) (sh_size t) (by omega) (by omega)
        ((with_reducible refine h6.mono ?_); rintro e w6 ⟨v, b, rfl, hvb, hqa⟩)
        have QA6 := Lib.hid hqa
        clear hqa h6 x0
        have x6 := HC.out _ QA6.out.1
        rcases hvb with ⟨rfl, rfl⟩ | ⟨rfl, rfl⟩
        · go_wp2_with fail
          ((with_reducible refine (short_any _ t hsz).mono ?_); rintro e wx ⟨rfl, rfl⟩)
          go_wp2_with fail
          have h7 := qa_ok QA6.out L1.out (sh_size t) (by omega)
          ((with_reducible refine h7.mono ?_); rintro e w7 ⟨rfl, h8⟩)
          have H8 := Lib.hid h8
          clear h7 h8 x6
          go_wp2_with fail
          ((with_reducible refine (H8.out _ rfl).mono ?_); rintro e w8 ⟨rfl, hq8⟩)
          have Q8 := Lib.hid (qj_more hq8 (show _ ≤ 1 + 4 * (k + 1) by omega) (show _ ≤ 216 * (k + 1) by omega))
          clear hq8 H8
          go_wp2_with fail
          go_roundw
          first
            | exact ⟨k + 1, _, _, by omega, by omega, rfl, rfl, rfl, by go_num, Q8⟩
            | (simp [intOf]; omega)
          all_goals (simp [intOf]; omega)
        · go_wp2_with fail
          ((with_reducible refine (short_any _ t hsz).mono ?_); rintro e wx ⟨rfl, rfl⟩)
          go_wp2_with fail
          have h7 := qa_bad QA6.out L1.out (sh_size t) (by omega)
          ((with_reducible refine h7.mono ?_); rintro e w7 ⟨rfl, many, hb7⟩)
          have B7 := Lib.hid (qb_drew hb7)
          obtain ⟨A7, c7, hc7⟩ := qb_cell hb7
          have B7c := Lib.hid (show w7.drew.cell? ⟨mp, 0, none⟩ = some (.slice A7 many c7) from hc7)
          clear h7 hb7 x6
          have h9 := qb_append B7.out L1.out ⟨#[109, 111, 114, 101]⟩ (by decide) (by omega) (by omega)
          have H9 := Lib.hid h9
          clear h9
          go_wp2_with fail
          go_region_held3 (fun w' => w'.cell? ⟨mp, 0, none⟩ = some (.slice A7 many c7)) (first | exact B7c.out | exact C9.out)
            (first
              | (go_at_call 14; ((with_reducible refine H9.out.mono ?_); rintro e w9 ⟨rfl, hb9, hc9⟩); have B9 := Lib.hid hb9; have C9 := Lib.hid (hc9.trans B7c.out); clear hb9 hc9)
              | (go_at_call 17; ((with_reducible refine (qb_many B9.out).mono ?_); rintro e wx ⟨rfl, rfl⟩)))
          go_wp2_with fail
          have h10 := qb_crash B9.out SV ns cs sv (ints_since' HSV.out B9.out.1) HSB.out
          ((with_reducible refine h10.mono ?_); rintro e w10 ⟨p10, l10, rfl, hd10⟩)
          have D10 := Lib.hid hd10
          clear hd10 h10
          go_wp2_with fail
          have h11 := open_QD D10.out L1.out (by decide)
          ((with_reducible refine h11.mono ?_); rintro e w11 ⟨jp11, A11, c11, rfl, ho11, hA11, hno11⟩)
          have O11 := Lib.hid ho11; have A11s := Lib.hid hA11; have N11 := Lib.hid hno11
          clear ho11 hA11 hno11 h11
          obtain ⟨q, hq⟩ : ∃ q, l10.length = q := ⟨_, rfl⟩
          rw [hq] at A11s N11 ⊢
          clear hq
          go_wp2_with fail
          have h12 := opens_QO (c := c11) O11.out L1.out A11s.out N11.out (by omega)
          ((with_reducible refine h12.mono ?_); rintro e w12 ⟨rfl, hq12⟩)
          have Q12 := Lib.hid (qj_more hq12 (show _ ≤ 1 + 4 * (k + 1) by omega) (show _ ≤ 216 * (k + 1) by omega))
          clear hq12 h12
          go_wp2_with fail
          go_roundw
          first
            | exact ⟨k + 1, _, _, by omega, by omega, rfl, rfl, rfl, by go_num, Q12⟩
            | (simp [intOf]; omega)
          all_goals (simp [intOf]; omega)
      · have b3 : decide (0 < nf) = true := by simp; omega
        have b4 : 0 < nf := by omega
        have hmod : (k : Int).tmod (nf : Int) = ((k % nf : Nat) : Int) := by rw [Int.tmod_eq_emod_of_nonneg (by omega)]; simp
        have hmlt : k % nf < nf := Nat.mod_lt _ b4
        obtain ⟨bf, of, rfl, xf0⟩ := HFA.out.at_ (k % nf) hmlt
        have hbf := World.block_lt_of_cell? _ _ xf0
        have hfl : fs.length = nf := by have := HFA.out.1; simpa using this
        have hfe : (fs.map (Value.int .u8)).getD (k % nf) undef = .int .u8 (fs.getD (k % nf) 0) := by
          simp [List.getD_eq_getElem?_getD, List.getElem?_eq_getElem (show k % nf < fs.length by omega)]
        rw [hfe] at xf0
        have hy2 := HFS.out _ (getD_mem (i := k % nf) (x := (0 : Int)) (by rw [hfl]; exact hmlt))
        obtain ⟨y, hy⟩ : ∃ y, fs.getD (k % nf) 0 = y := ⟨_, rfl⟩
        rw [hy] at xf0 hy2
        have xf : wo.cell? ⟨bf, of + k % nf, none⟩ = some (.int .u8 y) := (HI.out.1.cell (p := ⟨bf, of + k % nf, none⟩) hbf (fun h' => by simp only at h' hbf; omega)).trans xf0
        obtain ⟨fk, hfk⟩ : ∃ q : Nat, y.tmod 9 = q := ⟨(y.tmod 9).toNat, by rw [Int.tmod_eq_emod_of_nonneg hy2.1]; omega⟩
        have hfk' : y % 9 = fk := by rw [← Int.tmod_eq_emod_of_nonneg hy2.1]; exact hfk
        have hfk9 : fk < 9 := by omega
        clear hf0 xf0 hfe hfl hy hbf
        go_wp2_with fail
        have h5 := qj_fail HI.out L1.out (fk : Int) (by omega)
        ((with_reducible refine h5.mono ?_); rintro e w5 ⟨rfl, hx5⟩)
        have HX := Lib.hid hx5
        clear hx5 h5 xf
        have x0 := HC.out _ HX.out.1
        go_wp2_with fail
        ((with_reducible refine (short_any _ t hsz).mono ?_); rintro e wx ⟨rfl, rfl⟩)
        go_wp2_with fail
        have h6 := qf_append HX.out L1.out (sh t) (sh_size t) (by omega) (by omega)
        ((with_reducible refine h6.mono ?_); rintro e w6 ⟨v, b, rfl, hvb, hqa⟩)
        have QA6 := Lib.hid hqa
        clear hqa h6 x0
        have x6 := HC.out _ QA6.out.1
        rcases hvb with ⟨rfl, rfl⟩ | ⟨rfl, rfl⟩
        · go_wp2_with fail
          ((with_reducible refine (short_any _ t hsz).mono ?_); rintro e wx ⟨rfl, rfl⟩)
          go_wp2_with fail
          have h7 := qa_ok QA6.out L1.out (sh_size t) (by omega)
          ((with_reducible refine h7.mono ?_); rintro e w7 ⟨rfl, h8⟩)
          have H8 := Lib.hid h8
          clear h7 h8 x6
          go_wp2_with fail
          ((with_reducible refine (H8.out _ rfl).mono ?_); rintro e w8 ⟨rfl, hq8⟩)
          have Q8 := Lib.hid (qj_more hq8 (show _ ≤ 1 + 4 * (k + 1) by omega) (show _ ≤ 216 * (k + 1) by omega))
          clear hq8 H8
          go_wp2_with fail
          go_roundw
          first
            | exact ⟨k + 1, _, _, by omega, by omega, rfl, rfl, rfl, by go_num, Q8⟩
            | (simp [intOf]; omega)
          all_goals (simp [intOf]; omega)
        · go_wp2_with fail
          ((with_reducible refine (short_any _ t hsz).mono ?_); rintro e wx ⟨rfl, rfl⟩)
          go_wp2_with fail
          have h7 := qa_bad QA6.out L1.out (sh_size t) (by omega)
          ((with_reducible refine h7.mono ?_); rintro e w7 ⟨rfl, many, hb7⟩)
          have B7 := Lib.hid (qb_drew hb7)
          obtain ⟨A7, c7, hc7⟩ := qb_cell hb7
          have B7c := Lib.hid (show w7.drew.cell? ⟨mp, 0, none⟩ = some (.slice A7 many c7) from hc7)
          clear h7 hb7 x6
          have h9 := qb_append B7.out L1.out ⟨#[109, 111, 114, 101]⟩ (by decide) (by omega) (by omega)
          have H9 := Lib.hid h9
          clear h9
          go_wp2_with fail
          go_region_held3 (fun w' => w'.cell? ⟨mp, 0, none⟩ = some (.slice A7 many c7)) (first | exact B7c.out | exact C9.out)
            (first
              | (go_at_call 14; ((with_reducible refine H9.out.mono ?_); rintro e w9 ⟨rfl, hb9, hc9⟩); have B9 := Lib.hid hb9; have C9 := Lib.hid (hc9.trans B7c.out); clear hb9 hc9)
              | (go_at_call 17; ((with_reducible refine (qb_many B9.out).mono ?_); rintro e wx ⟨rfl, rfl⟩)))
          go_wp2_with fail
          have h10 := qb_crash B9.out SV ns cs sv (ints_since' HSV.out B9.out.1) HSB.out
          ((with_reducible refine h10.mono ?_); rintro e w10 ⟨p10, l10, rfl, hd10⟩)
          have D10 := Lib.hid hd10
          clear hd10 h10
          go_wp2_with fail
          have h11 := open_QD D10.out L1.out (by decide)
          ((with_reducible refine h11.mono ?_); rintro e w11 ⟨jp11, A11, c11, rfl, ho11, hA11, hno11⟩)
          have O11 := Lib.hid ho11; have A11s := Lib.hid hA11; have N11 := Lib.hid hno11
          clear ho11 hA11 hno11 h11
          obtain ⟨q, hq⟩ : ∃ q, l10.length = q := ⟨_, rfl⟩
          rw [hq] at A11s N11 ⊢
          clear hq
          go_wp2_with fail
          have h12 := opens_QO (c := c11) O11.out L1.out A11s.out N11.out (by omega)
          ((with_reducible refine h12.mono ?_); rintro e w12 ⟨rfl, hq12⟩)
          have Q12 := Lib.hid (qj_more hq12 (show _ ≤ 1 + 4 * (k + 1) by omega) (show _ ≤ 216 * (k + 1) by omega))
          clear hq12 h12
          go_wp2_with fail
          go_roundw
          first
            | exact ⟨k + 1, _, _, by omega, by omega, rfl, rfl, rfl, by go_num, Q12⟩
            | (simp [intOf]; omega)
          all_goals (simp [intOf]; omega)
    · have hb : (k < n ∧ ¬ k < 20 ∧ decide (k < n) = true ∧ decide (k < 20) = false) ∨ decide (k < n) = false := by
        by_cases h1 : k < n
        · exact .inl ⟨h1, by omega, by simpa using h1, by simp; omega⟩
        · exact .inr (by simpa using h1)
      clear hlt
      rcases hb with ⟨hl1, hl2, b1, b2⟩ | b1
      all_goals (
        go_wp2_with fail
        have h5 := qj_crash HI.out SV ns cs sv (ints_since' HSV.out HI.out.1) HSB.out
        ((with_reducible refine h5.mono ?_); rintro e w5 ⟨p5, l5, rfl, hs5, Y5, hg5, hm5⟩)
        have S5 := Lib.hid hs5; have G5 := Lib.hid hg5; have M5 := Lib.hid hm5
        clear hs5 hg5 hm5 h5
        go_wp2_with fail
        have h6 := open_GD G5.out (by decide)
        ((with_reducible refine h6.mono ?_); rintro e w6 ⟨jp6, A6, c6, rfl, _, hk6, hA6, _, _⟩)
        have S6 := Lib.hid (Keep.trans S5.out (Since.mono hk6.since L1.out))
        obtain ⟨A7, c7, hc7, hA7⟩ := mx_row (M5.out.kx hk6 (fun _ h => h))
        have hsm := same_any hA6 hA7 true (by simp) (ca := c6) (cb := c7)
        obtain ⟨q, hq⟩ : ∃ q, l5.length = q := ⟨_, rfl⟩
        have hc7' : w6.cell? ⟨mp, 0, none⟩ = some (.slice A7 q c7) := by rw [← hq]; exact hc7
        simp only [hq] at hsm
        rw [hq]
        have HS := Lib.hid hsm
        clear hk6 hA6 h6 hsm hA7 hc7 hq
        go_wp2_with fail
        ((with_reducible refine HS.out.mono ?_); rintro e w10 ⟨rfl, i, hi⟩)
        have S10 := Lib.hid (show Since w.heap.size w w10 by rw [hi]; exact Keep.trans S6.out (since_draw _ _ _))
        clear hi
        go_wp2_with fail
        go_ret
        exact ⟨rfl, below_since S10.out rfl⟩)
set_option maxRecDepth 100000 in
theorem crashes_lifted (os : Os) (started : os.Started) (H : Type) (enc : TypeId × Value → H) :
    ReturnsInHanded {} Try.checked os 4 .any (Rows.journalCrashesSpec.pre6 enc Try.prog Try.f4 Rows.journalCrashesRow.domain false) (Rows.journalCrashesSpec.post enc Try.prog Try.f4 false true false false) := by
  refine law_lift (C := Try.checked) Try.own started (by kernel_rfl) Try.func4
    (ChangeSpec.witness6 (enc := enc) (C := Try.checked) false ⟨#[], #[.slice none 0 0, .slice none 0 0, .slice none 0 0], []⟩ 8 (by kernel_rfl) (by kernel_rfl) (by kernel_rfl) (by kernel_rfl))
    Try.laidOut (by kernel_rfl) rfl rfl Try.underlying4 ?_ ?_
  · intro ds hl
    match ds, hl with
    | [d1, d2, d3], _ => exact ⟨rfl, rfl, rfl⟩
  · intro W base args ds p hval0 hA0 hlt hsz0
    have hval : ∀ (j : Nat) t v, Try.f4.params[j]? = some t → args[j]? = some v → Value.okWide Try.prog W .any base t v := hval0
    have hA : DataW.TrodAll enc Try.prog W 0 (fun _ => true) true Try.f4.params.toList args.toList ds p := hA0
    have hsz : (DataW.weightsEach Try.prog Try.f4.params.toList ds).all (· ≤ reachBytes) = true := hsz0
    rw [Try.params4] at hA hval hsz
    clear hA0 hval0 hsz0
    obtain ⟨v0, v1, v2, d0, d1, d2, p0, p1, p2, rfl, rfl, rfl, h0, h1, h2⟩ := trodAll_three hA
    have hlt0 : ∀ x ∈ p0, x.block < W.heap.size := fun x hx => hlt x (by simp [hx])
    have hlt1 : ∀ x ∈ p1, x.block < W.heap.size := fun x hx => hlt x (by simp [hx])
    have hlt2 : ∀ x ∈ p2, x.block < W.heap.size := fun x hx => hlt x (by simp [hx])
    obtain ⟨Al, nl, cl, l, rfl, il, zl⟩ := open_strs Try.underlying22 Try.underlying9 (by kernel_rfl) (hval 0 22 v0 rfl rfl) h0 hlt0
    obtain ⟨Afs, nfs, cfs, fs, rfl, ifs, zfs, rfs, wfs⟩ := open_u8s_at Try.underlying43 Try.underlying5 (by kernel_rfl) (by kernel_rfl) (hval 1 43 v1 rfl rfl) h1 hlt1 (fun el sp hd => sized_slice hsz (j := 1) rfl (by simp [hd]) Try.underlying43)
    obtain ⟨Asv, nsv, csv, sv, rfl, isv, zsv, rsv, wsv⟩ := open_ints_at Try.underlying40 Try.underlying3 (by kernel_rfl) (by kernel_rfl) (hval 2 40 v2 rfl rfl) h2 hlt2 (fun el sp hd => sized_slice hsz (j := 2) rfl (by simp [hd]) Try.underlying40)
    exact crashes_walk Al nl cl l Afs nfs cfs fs Asv nsv csv sv W il zl.2.2.2 ifs (fun x hx => bd_u8 (wfs x hx)) isv (fun x hx => bd_i64 (wsv x hx))

/-- The statement. -/
theorem crashes_holds : Rows.JournalCrashesSaid :=
  OpenClaim.holds_of_wide 4 Try.f4 rfl rfl rfl rfl rfl rfl rfl ⟨rfl, rfl, rfl, rfl, rfl⟩ rfl rfl rfl rfl rfl (by kernel_rfl) Try.func4 (by kernel_rfl)
    (of_decide_eq_true (by kernel_rfl)) (by unfold Func.isWrapper; first | (rw [if_pos (by decide +kernel)]; kernel_rfl) | (rw [if_neg (by decide +kernel)]; exact ⟨rfl, rfl⟩))
    (fun os started H enc _ => crashes_lifted os started H enc)
#print axioms crashes_holds
end Go.Proofs.Ytbmmcdnmbdoglaa
