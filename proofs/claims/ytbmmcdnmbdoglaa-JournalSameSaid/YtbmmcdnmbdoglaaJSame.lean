/- JournalSame: the power fails during an Append, and comes back. -/
import Derived.Test.YtbmmcdnmbdoglaaJ17
import Derived.Test.YtbmmcdnmbdoglaaJ18
import Derived.Test.YtbmmcdnmbdoglaaKM
import Derived.Test.YtbmmcdnmbdoglaaKS
import Derived.Test.YtbmmcdnmbdoglaaKL
namespace Go.Proofs.Ytbmmcdnmbdoglaa
open Go.ChangeShapes Go.WideShapes Go.ChangeAt Go.RowKit
set_option linter.unusedVariables false

def Rel (l : List Bytes) (m : MS) : Prop := l = m.l ∨ ∃ x, m.broken = true ∧ m.maybe = [x] ∧ x.length ≤ 200 ∧ l = m.l ++ [x]
def SP (w0 : World) (n mp : Nat) (w : World) (p C : Nat) (l : List Bytes) : Prop :=
  Since w0.heap.size w0 w ∧ ∃ Y m, GD n Y w p l C ∧ MX n w mp m Y ∧ Rel l m ∧ bytesOf l ≤ 1000300
theorem sj_power {w0 w : World} {n mp jp p C B : Nat} (h : SJ w0 n mp w jp p C B) (hn : w0.heap.size ≤ n) (hB : B ≤ 1000000) :
    Calls Try.prog 20 #[.pointer (some ⟨p, 0, none⟩), .int .i64 (-1)] w fun e w' => e = .returned (.tuple #[]) ∧ ∃ l, SP w0 n mp w' p C l := by
  obtain ⟨hs, Y, d, j, m, h1, h2, h3, h4, h5, h6⟩ := h
  refine (fail_X h1 (-1) (by decide)).mono ?_
  rintro e w' ⟨rfl, hj, hkx⟩
  have hs' := Keep.trans hs (Since.mono hkx.since hn)
  have h2' := h2.kx hkx (fun _ h => h)
  rcases h6 with ⟨g, _, ma, mb⟩ | ⟨j0, d0, x, rfl, g, t, ma, mb, hx⟩
  · exact ⟨rfl, m.l, hs', Y, m, ⟨_, _, hj.dx, rfl, h3, by show d.parts.length ≤ _; rw [g.prt]; simp, g.opn⟩, h2', .inl rfl, by omega⟩
  · rcases t.now with ⟨E, ho⟩ | ⟨E, ho⟩
    · exact ⟨rfl, m.l, hs', Y, m, ⟨_, E, hj.dx, rfl, h3, by have := t.parts; show d.parts.length ≤ _; omega, ho⟩, h2', .inl rfl, by omega⟩
    · exact ⟨rfl, m.l ++ [x], hs', Y, m, ⟨_, E, hj.dx, rfl, h3, by have := t.parts; show d.parts.length ≤ _; omega, ho⟩, h2', .inr ⟨x, mb, ma, hx, rfl⟩, by rw [bytesOf_append]; simp only [bytesOf]; omega⟩
def SO (w0 : World) (n mp : Nat) (w : World) (jp p C : Nat) (l : List Bytes) (A : Option Addr) : Prop :=
  Since w0.heap.size w0 w ∧ ∃ Y Z m, GJ n Z w jp p l C ∧ MX n w mp m Y ∧ Rel l m ∧ (∀ k, Y k → Z k) ∧ (∀ a, A = some a → ¬ Y a.block) ∧ bytesOf l ≤ 1000300
theorem open_SP {w0 w : World} {n mp p C : Nat} {l : List Bytes} (h : SP w0 n mp w p C l) (hn : w0.heap.size ≤ n) (hC : C ≤ 80000000) :
    Calls Try.prog 12 #[.pointer (some ⟨p, 0, none⟩)] w fun e w' => ∃ jp A c, e = .returned (.tuple #[.pointer (some ⟨jp, 0, none⟩), .slice A l.length c, .int .i64 0]) ∧ SO w0 n mp w' jp p (C + 1) l A ∧ StrsAt w' A l.length l ∧ (A = none → l.length = 0 ∧ c = 0) := by
  obtain ⟨hs, Y, m, h1, h2, h3, h4⟩ := h
  refine (open_GD h1 hC).mono ?_
  rintro e w' ⟨jp, A, c, rfl, hj, hk, hA, hA2, hA3⟩
  refine ⟨jp, A, c, rfl, ⟨Keep.trans hs (Since.mono hk.since hn), Y, _, m, hj, h2.kx hk (fun _ h => h), h3, fun k hk' => .inl hk', fun a ha hy => ?_, h4⟩, hA, hA3.1⟩
  have := (h2.lt _ hy).2
  have := hA2 a ha
  omega
theorem opens_SO {w0 w : World} {n mp jp p C k c : Nat} {l : List Bytes} {A : Option Addr} (h : SO w0 n mp w jp p C l A) (hn : w0.heap.size ≤ n) (hA : StrsAt w A k l) (hno : A = none → k = 0 ∧ c = 0) :
    Calls Try.prog 19 #[.pointer (some ⟨mp, 0, none⟩), .slice A k c] w fun e w' => e = .returned (.bool true) ∧ Since w0.heap.size w0 w' ∧ (∃ Z, GJ n Z w' jp p l C) ∧ StrsAt w' A k l := by
  obtain ⟨hs, Y, Z, m, h1, h2, h3, h4, h5, h6⟩ := h
  have hk : k ≤ 1000000 := by
    have h1 := hA.len
    have h2 := (sum4_le l).2
    omega
  have fin : ∀ (w' : World) (Y' : Nat → Prop), Keep Y w w' → Since w0.heap.size w0 w' ∧ (∃ Z, GJ n Z w' jp p l C) ∧ StrsAt w' A k l := fun w' Y' hk' =>
    ⟨Keep.trans hs (Keep.mono hk' (fun i hi => Nat.le_trans hn (h2.lt i hi).1)), ⟨_, h1.beside hk' h4 (fun i hi => ⟨Nat.lt_of_lt_of_le (h1.lt i hi) hk'.size, .inl hi⟩)⟩, hA.keep hk' (fun b hb => h5 b hb)⟩
  rcases h3 with h3 | ⟨x, mb, ma, hx, h3⟩
  · refine (opens_same h2 h1.le hA hno h5 h3 hk (by omega)).mono ?_
    rintro e w' ⟨rfl, Y', hm, hk', hy⟩
    exact ⟨rfl, fin w' Y' hk'⟩
  · refine (opens_perhaps (x := sb x) h2 h1.le hA hno h5 mb (by rw [ma]; simp [bs_sb]) (by rw [h3]; simp [bs_sb]) hk (by omega)).mono ?_
    rintro e w' ⟨rfl, Y', hm, hk', hy⟩
    exact ⟨rfl, fin w' Y' hk'⟩

set_option maxHeartbeats 2000000 in
set_option maxRecDepth 100000 in
theorem same_walk (A : Option Addr) (n c : Nat) (l : List Bytes) (f : Int) (SA' : Option Addr) (ns cs : Nat) (sv : List Int) (w : World) (hA : StrsAt w A n l) (hlm : ∀ s ∈ l, s.length ≤ maxLen) (hf : 0 ≤ f ∧ f ≤ 255) (hS : IntsAt w SA' ns sv) (hsv : ∀ x ∈ sv, -9223372036854775808 ≤ x ∧ x ≤ 9223372036854775807) :
    Calls Try.prog 5 #[.slice A n c, .int .u8 f, .slice SA' ns cs] w fun e w' => e = .returned (.bool true) ∧ Below w.heap.size w w' := by
  have hnl := hA.2.1
  have HA := Lib.hid hA; have HLM := Lib.hid hlm; have HSV := Lib.hid hS; have HSB := Lib.hid hsv
  have HLEN := Lib.hid hA.len
  clear hA hlm hS hsv
  go_enter Try.func5, Try.ntmps5
  go_wp2_with fail
  refine (sanity_any w).mono ?_
  rintro e w1 ⟨rfl, hs1⟩
  have S1 := Lib.hid hs1; clear hs1
  go_wp2_with fail
  ((with_reducible refine (new_GD w1).mono ?_); rintro e w2 ⟨rfl, hd2, hs2⟩)
  have D2 := Lib.hid hd2; have S2 := Lib.hid (Keep.trans S1.out (Since.mono hs2 S1.out.size)); have L1 := Lib.hid S1.out.size; clear hd2 hs2
  go_wp2_with fail
  have h3 := open_GD D2.out (by decide)
  ((with_reducible refine h3.mono ?_); rintro e w3 ⟨jp, A3, c3, rfl, hj3, hk3, _, _, _⟩)
  have J3 := Lib.hid hj3; have S3 := Lib.hid (Keep.trans S2.out (Since.mono hk3.since L1.out))
  clear hj3 hk3 h3 D2 S2
  go_wp2_with fail
  have h4 := new_M w3 w1.heap.size J3.out.le
  ((with_reducible refine h4.mono ?_); rintro e w4 ⟨rfl, hm4, hs4⟩)
  have HI0 := Lib.hid (show SJ w w1.heap.size w3.heap.size w4 jp w1.heap.size (1 + 4 * 0) (216 * 0) from by
    obtain ⟨d, j, j1, j2, j3, j4⟩ := J3.out.later (Y := fun k => k = w3.heap.size) hs4 (fun k hk => ⟨(hm4.lt k hk).2, .inr (by show w3.heap.size ≤ k; have : k = w3.heap.size := hk; omega)⟩)
    exact ⟨Keep.trans S3.out (Since.mono hs4 S3.out.size), _, d, j, _, j1, hm4, j4, rfl, Nat.le_refl _, .inl ⟨j2, .inl j3, rfl, rfl⟩⟩)
  clear hm4 hs4 h4 J3 S3
  obtain ⟨mp, hmp⟩ : ∃ mp, w3.heap.size = mp := ⟨_, rfl⟩
  rw [hmp] at HI0 ⊢
  clear hmp
  obtain ⟨fk, hfk⟩ : ∃ k : Nat, f.tmod 9 = k := ⟨(f.tmod 9).toNat, by rw [Int.tmod_eq_emod_of_nonneg hf.1]; omega⟩
  have hfk' : f % 9 = fk := by rw [← Int.tmod_eq_emod_of_nonneg hf.1]; exact hfk
  have hfk9 : fk < 9 := by omega
  go_wp2_with fail
  go_loopw [13] (fun i wr => ∃ k : Nat, k ≤ 10 ∧ k ≤ n ∧ i = .int .i64 (k : Int) ∧ Hid (SJ w w1.heap.size mp wr jp w1.heap.size (1 + 4 * k) (216 * k))) (fun i _ => 11 - (intOf i).toNat)
  case atStart => exact ⟨0, by omega, by omega, rfl, HI0⟩
  case round =>
    obtain ⟨k, hk, hkn, rfl, HI⟩ := hrel
    obtain ⟨wo, rfl⟩ : ∃ wo : World, wo = wr := ⟨_, rfl⟩
    by_cases hlt : k < n ∧ k < 10
    · have hl1 := hlt.1
      have hl2 := hlt.2
      have b1 : decide (k < n) = true := by simpa using hl1
      have b2 : decide (k < 10) = true := by simpa using hl2
      obtain ⟨bb, off, rfl, xw⟩ := HA.out.at_ k hl1
      have hbw := World.block_lt_of_cell? _ _ xw
      have hsz := str_size HLM.out k
      obtain ⟨t, ht⟩ : ∃ t, sb (l.getD k []) = t := ⟨_, rfl⟩
      rw [ht] at xw hsz
      have XW := Lib.hid xw; have BW := Lib.hid hbw
      have hcell : ∀ wx, Since w.heap.size w wx → wx.cell? ⟨bb, off + k, none⟩ = some (.string t) := fun wx hs => (hs.cell (p := ⟨bb, off + k, none⟩) BW.out (fun h' => by have := BW.out; simp only at h' this; omega)).trans XW.out
      have HC := Lib.hid hcell
      clear hlt ht xw hbw hcell
      go_wp2_with fail
      · have h5 := sj_fail HI.out L1.out (fk : Int) (by omega)
        ((with_reducible refine h5.mono ?_); rintro e w5 ⟨rfl, hx5⟩)
        have HX := Lib.hid hx5
        clear hx5 h5
        have x0 := HC.out _ HX.out.1
        go_wp2_with fail
        have hd := sj_drew HX.out
        have hap := sj_append hd L1.out (sh t) (sh_size t) (by omega) (by omega)
        have XD := Lib.hid (HC.out _ hd.1); have HAP := Lib.hid hap
        clear hd hap
        go_region_held3 (fun w' => w'.cell? ⟨bb, off + k, none⟩ = some (.string t)) (first | exact XD.out | exact HC.out _ H9.out.1 | exact HC.out _ H10.out.1)
          (first
            | (go_at_call 15; ((with_reducible refine (short_any _ t hsz).mono ?_); rintro e wx ⟨rfl, rfl⟩))
            | (go_at_call 14; ((with_reducible refine HAP.out.mono ?_); rintro e w9 ⟨v, b, rfl, hvb, hsa⟩); have H9 := Lib.hid hsa; clear hsa)
            | (go_at_call 16; ((with_reducible refine (sj_model H9.out L1.out (sh_size t) (by omega)).mono ?_); rintro e w10 ⟨v', rfl, h10⟩); have H10 := Lib.hid h10; clear h10))
        go_wp2_with fail
        go_roundw
        have e1 : 1 + 4 * k + 4 = 1 + 4 * (k + 1) := by omega
        have e2 : 216 * k + 216 = 216 * (k + 1) := by omega
        have H11 := H10.out
        rw [e1, e2] at H11
        first
          | exact ⟨k + 1, by omega, by omega, by go_num, Lib.hid H11⟩
          | (simp [intOf]; omega)
        all_goals (simp [intOf]; omega)
      · have HX := Lib.hid HI.out
        have x0 := HC.out _ HX.out.1
        have hd := sj_drew HX.out
        have hap := sj_append hd L1.out (sh t) (sh_size t) (by omega) (by omega)
        have XD := Lib.hid (HC.out _ hd.1); have HAP := Lib.hid hap
        clear hd hap
        go_region_held3 (fun w' => w'.cell? ⟨bb, off + k, none⟩ = some (.string t)) (first | exact XD.out | exact HC.out _ H9.out.1 | exact HC.out _ H10.out.1)
          (first
            | (go_at_call 15; ((with_reducible refine (short_any _ t hsz).mono ?_); rintro e wx ⟨rfl, rfl⟩))
            | (go_at_call 14; ((with_reducible refine HAP.out.mono ?_); rintro e w9 ⟨v, b, rfl, hvb, hsa⟩); have H9 := Lib.hid hsa; clear hsa)
            | (go_at_call 16; ((with_reducible refine (sj_model H9.out L1.out (sh_size t) (by omega)).mono ?_); rintro e w10 ⟨v', rfl, h10⟩); have H10 := Lib.hid h10; clear h10))
        go_wp2_with fail
        go_roundw
        have e1 : 1 + 4 * k + 4 = 1 + 4 * (k + 1) := by omega
        have e2 : 216 * k + 216 = 216 * (k + 1) := by omega
        have H11 := H10.out
        rw [e1, e2] at H11
        first
          | exact ⟨k + 1, by omega, by omega, by go_num, Lib.hid H11⟩
          | (simp [intOf]; omega)
        all_goals (simp [intOf]; omega)
    · have hb : (k < n ∧ ¬ k < 10 ∧ decide (k < n) = true ∧ decide (k < 10) = false) ∨ decide (k < n) = false := by
        by_cases h1 : k < n
        · exact .inl ⟨h1, by omega, by simpa using h1, by simp; omega⟩
        · exact .inr (by simpa using h1)
      clear hlt
      rcases hb with ⟨hl1, hl2, b1, b2⟩ | b1
      all_goals (
        go_wp2_with fail
        have h5 := sj_power HI.out L1.out (by omega)
        ((with_reducible refine h5.mono ?_); rintro e w5 ⟨rfl, l', hp5⟩)
        have P5 := Lib.hid hp5
        clear hp5 h5
        go_wp2_with fail
        have h6 := open_SP P5.out L1.out (by omega)
        ((with_reducible refine h6.mono ?_); rintro e w6 ⟨jp6, A6, c6, rfl, ho6, hA6, hno6⟩)
        have O6 := Lib.hid ho6; have A6s := Lib.hid hA6; have N6 := Lib.hid hno6
        clear ho6 hA6 hno6 h6
        obtain ⟨q, hq⟩ : ∃ q, l'.length = q := ⟨_, rfl⟩
        have HQ := Lib.hid hq
        rw [hq] at A6s N6 ⊢
        clear hq
        go_wp2_with fail
        have h7 := opens_SO (c := c6) O6.out L1.out A6s.out N6.out
        ((with_reducible refine h7.mono ?_); rintro e w7 ⟨rfl, hs7, hj7, hA7⟩)
        have S7 := Lib.hid hs7; have J7 := Lib.hid hj7; have A7 := Lib.hid hA7
        clear hs7 hj7 hA7 h7
        go_wp2_with fail
        obtain ⟨Z7, hz7⟩ := J7.out
        have h8 := crash_GJ hz7 SA' ns cs sv (ints_since' HSV.out S7.out) HSB.out
        ((with_reducible refine h8.mono ?_); rintro e w8 ⟨rfl, _, hd8, hs8⟩)
        have D8 := Lib.hid hd8; have S8 := Lib.hid hs8
        clear hd8 hs8 h8 hz7
        go_wp2_with fail
        have h9 := open_GD D8.out (by decide)
        rw [HQ.out] at h9
        ((with_reducible refine h9.mono ?_); rintro e w9 ⟨jp9, A9, c9, rfl, _, hk9, hA9, _, _⟩)
        have hs9 := Keep.trans S8.out hk9.since
        have S9 := Lib.hid (Keep.trans S7.out (Since.mono hs9 S7.out.size))
        have hsm := same_any hA9 (strs_since A7.out hs9) true (by simp) (ca := c9) (cb := c6)
        have HS := Lib.hid hsm
        clear hk9 hA9 h9 hs9 hsm
        go_wp2_with fail
        ((with_reducible refine HS.out.mono ?_); rintro e w10 ⟨rfl, i, hi⟩)
        have S10 := Lib.hid (show Since w.heap.size w w10 by rw [hi]; exact Keep.trans S9.out (since_draw _ _ _))
        clear hi
        go_wp2_with fail
        go_ret
        exact ⟨rfl, below_since S10.out rfl⟩)
set_option maxRecDepth 100000 in
theorem same_lifted (os : Os) (started : os.Started) (H : Type) (enc : TypeId × Value → H) :
    ReturnsInHanded {} Try.checked os 5 .any (Rows.journalSameSpec.pre6 enc Try.prog Try.f5 Rows.journalSameRow.domain false) (Rows.journalSameSpec.post enc Try.prog Try.f5 false true false false) := by
  refine law_lift (C := Try.checked) Try.own started (by kernel_rfl) Try.func5
    (ChangeSpec.witness6 (enc := enc) (C := Try.checked) false ⟨#[], #[.slice none 0 0, .int .u8 0, .slice none 0 0], []⟩ 8 (by kernel_rfl) (by kernel_rfl) (by kernel_rfl) (by kernel_rfl))
    Try.laidOut (by kernel_rfl) rfl rfl Try.underlying4 ?_ ?_
  · intro ds hl
    match ds, hl with
    | [d1, d2, d3], _ => exact ⟨rfl, rfl, rfl⟩
  · intro W base args ds p hval0 hA0 hlt hsz0
    have hval : ∀ (j : Nat) t v, Try.f5.params[j]? = some t → args[j]? = some v → Value.okWide Try.prog W .any base t v := hval0
    have hA : DataW.TrodAll enc Try.prog W 0 (fun _ => true) true Try.f5.params.toList args.toList ds p := hA0
    have hsz : (DataW.weightsEach Try.prog Try.f5.params.toList ds).all (· ≤ reachBytes) = true := hsz0
    rw [Try.params5] at hA hval hsz
    clear hA0 hval0 hsz0
    obtain ⟨v0, v1, v2, d0, d1, d2, p0, p1, p2, rfl, rfl, rfl, h0, h1, h2⟩ := trodAll_three hA
    have hlt0 : ∀ x ∈ p0, x.block < W.heap.size := fun x hx => hlt x (by simp [hx])
    have hlt1 : ∀ x ∈ p1, x.block < W.heap.size := fun x hx => hlt x (by simp [hx])
    have hlt2 : ∀ x ∈ p2, x.block < W.heap.size := fun x hx => hlt x (by simp [hx])
    obtain ⟨Al, nl, cl, l, rfl, il, zl⟩ := open_strs Try.underlying22 Try.underlying9 (by kernel_rfl) (hval 0 22 v0 rfl rfl) h0 hlt0
    obtain ⟨f, rfl, rfl, rfl, wf⟩ := open_int Try.underlying5 (hval 1 5 v1 rfl rfl) h1
    obtain ⟨Asv, nsv, csv, sv, rfl, isv, zsv, rsv, wsv⟩ := open_ints_at Try.underlying40 Try.underlying3 (by kernel_rfl) (by kernel_rfl) (hval 2 40 v2 rfl rfl) h2 hlt2 (fun el sp hd => sized_slice hsz (j := 2) rfl (by simp [hd]) Try.underlying40)
    exact same_walk Al nl cl l f Asv nsv csv sv W il zl.2.2.2 (bd_u8 wf) isv (fun x hx => bd_i64 (wsv x hx))

/-- The statement. -/
theorem same_holds : Rows.JournalSameSaid :=
  OpenClaim.holds_of_wide 5 Try.f5 rfl rfl rfl rfl rfl rfl rfl ⟨rfl, rfl, rfl, rfl, rfl⟩ rfl rfl rfl rfl rfl (by kernel_rfl) Try.func5 (by kernel_rfl)
    (of_decide_eq_true (by kernel_rfl)) (by unfold Func.isWrapper; first | (rw [if_pos (by decide +kernel)]; kernel_rfl) | (rw [if_neg (by decide +kernel)]; exact ⟨rfl, rfl⟩))
    (fun os started H enc _ => same_lifted os started H enc)
#print axioms same_holds
end Go.Proofs.Ytbmmcdnmbdoglaa
