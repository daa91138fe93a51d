/- The reference's Right of worlds. -/
import Derived.Test.YtbbeoeoengogpaaW5
namespace Go.Proofs.Ytbbeoeoengogpaa
open Go.RowKit Go.Lib
set_option linter.unusedVariables false

set_option maxRecDepth 100000 in
set_option maxHeartbeats 4000000 in
theorem ref_world {w : World} {d : WD} {s : WS} (h : WR w d s) :
    Calls Try.prog 30 #[.agg #[.slice s.A0 d.ins.length s.c0, .slice s.A1 d.clocks.length s.c1, .slice s.A2 d.choices.length s.c2, .slice s.A3 d.fuel.length s.c3, .slice s.A4 d.limit.length s.c4, .int .i64 d.epoch]] w fun e w' => e = .returned (.bool d.right) ∧ Since w.heap.size w w' := by
  obtain ⟨f0, f1, f2, f3, f4⟩ := h.few
  have hk := (Keep.refl (fun _ => False) w).alloc' (.cells #[.slice s.A0 d.ins.length s.c0, .slice s.A1 d.clocks.length s.c1, .slice s.A2 d.choices.length s.c2, .slice s.A3 d.fuel.length s.c3, .slice s.A4 d.limit.length s.c4, .int .i64 d.epoch] 63)
  have hnew := heap_alloc_new w (.cells #[.slice s.A0 d.ins.length s.c0, .slice s.A1 d.clocks.length s.c1, .slice s.A2 d.choices.length s.c2, .slice s.A3 d.fuel.length s.c3, .slice s.A4 d.limit.length s.c4, .int .i64 d.epoch] 63)
  have H1 := Lib.hid (h.since (Since.of hk))
  have S1 := Lib.hid (Since.of (n := w.heap.size) hk)
  go_enter Try.func30, Try.ntmps30
  go_wp2_with fail
  obtain ⟨w1, hw1⟩ : ∃ w1, w.alloc (.cells #[.slice s.A0 d.ins.length s.c0, .slice s.A1 d.clocks.length s.c1, .slice s.A2 d.choices.length s.c2, .slice s.A3 d.fuel.length s.c3, .slice s.A4 d.limit.length s.c4, .int .i64 d.epoch] 63) = w1 := ⟨_, rfl⟩
  obtain ⟨B, hB⟩ : ∃ B, w.heap.size = B := ⟨_, rfl⟩
  have HB := Lib.hid hB
  have hsz : w1.heap.size = B + 1 := by rw [← hw1, ← hB]; simp
  rw [hw1] at H1 S1
  rw [hw1, hB] at hnew
  rw [hw1, hB]
  clear hw1 hB hk h
  have HN := Lib.hid hnew
  obtain ⟨n0, hn0⟩ : ∃ n0, d.ins.length = n0 := ⟨_, rfl⟩
  have HN0 := Lib.hid hn0
  rw [hn0] at f0 hnew ⊢
  clear hn0
  go_loopw [3] (fun i wr => ∃ j : Nat, j ≤ n0 ∧ i = .int .i64 (j : Int) ∧ Hid (∀ t, t < j → PL (d.ins.getD t Val.dflt) = true) ∧ Hid (Since w1.heap.size w1 wr)) (fun i _ => n0 + 1 - (intOf i).toNat)
  case atStart => exact ⟨0, Nat.zero_le _, rfl, Lib.hid (fun t ht => absurd ht (by omega)), Lib.hid (Keep.refl _ _)⟩
  case round =>
    obtain ⟨j, hj, rfl, HA, HS⟩ := hrel
    obtain ⟨wo, rfl⟩ : ∃ wo : World, wo = wr := ⟨_, rfl⟩
    have hbo := (HS.out.block B (by omega) (by omega)).trans HN.out
    rw [HN0.out] at hbo
    have b0 := blk_cell hbo 0
    have b1 := blk_cell hbo 1
    have b2 := blk_cell hbo 2
    have b3 := blk_cell hbo 3
    have b4 := blk_cell hbo 4
    have b5 := blk_cell hbo 5
    simp only [List.getElem?_toArray, List.getElem?_cons_zero, List.getElem?_cons_succ] at b0 b1 b2 b3 b4 b5
    clear hbo hnew
    by_cases hjn : j < n0
    · have hb : decide (j < n0) = true := by simpa using hjn
      obtain ⟨v, hv⟩ : ∃ v, d.ins.getD j Val.dflt = v := ⟨_, rfl⟩
      have hrow := H1.out.ins.since HS.out
      obtain ⟨g, hgA, q0, q1, q2⟩ := hrow.at_ j (by rw [HN0.out]; exact hjn) v hv
      rw [hgA] at b0
      have HX := Lib.hid hv
      have hps : PlainS v.s := hv ▸ H1.out.plain _ (getD_mem (by rw [HN0.out]; exact hjn))
      have HR := Lib.hid (ref_right v.a v.b hps wo)
      clear hv hps hrow hgA b1 b2 b3 b4 b5
      cases hvr : VR v.a v.b v.s with
      | false =>
        have hno : PL v = false := by unfold PL; rw [hvr]; rfl
        have hri : d.right = false := by
          have := allP_no (l := d.ins) (j := j) (by rw [HN0.out]; exact hjn) (by rw [HX.out]; exact hno)
          unfold WD.right r0
          rw [this]
          simp
        have HRI := Lib.hid hri
        rw [hvr] at HR
        clear hno hri hvr
        go_wp2_with fail
        ((with_reducible refine HR.out.mono ?_); rintro e w' ⟨rfl, hk'⟩)
        have HK := Lib.hid (Keep.trans S1.out (Since.mono (Keep.trans HS.out (Since.of hk')) S1.out.size))
        clear hk'
        go_wp2_with fail
        go_ret
        exact ⟨by rw [HRI.out]; rfl, by rw [HB.out]; exact HB.out ▸ HK.out⟩
      | true =>
        rw [hvr] at HR
        go_wp2_with fail
        ((with_reducible refine HR.out.mono ?_); rintro e wq ⟨rfl, hk'⟩)
        have hkq := Keep.trans HS.out (Since.of hk')
        have b0 := cell_kept hk' b0 id
        have q0 := cell_kept hk' q0 id
        have q1 := cell_kept hk' q1 id
        have q2 := cell_kept hk' q2 id
        have HK := Lib.hid (Keep.trans S1.out (Since.mono hkq S1.out.size))
        have HQ := Lib.hid hkq
        clear hk' hkq
        by_cases h1 : v.a < 1
        · have hd : decide (v.a < 1) = true := by simpa using h1
          have hri : d.right = false := by
            have hno : PL v = false := by
              have e : decide (1 ≤ v.a) = false := by simpa using h1
              unfold PL; rw [e]; simp
            have := allP_no (l := d.ins) (j := j) (by rw [HN0.out]; exact hjn) (by rw [HX.out]; exact hno)
            unfold WD.right r0
            rw [this]
            simp
          have HRI := Lib.hid hri
          clear hri hvr
          go_wp2_with fail
          go_ret
          exact ⟨by rw [HRI.out]; rfl, HK.out⟩
        · have hd : decide (v.a < 1) = false := by simpa using h1
          by_cases h4 : 4 < v.a
          · have hd2 : decide (4 < v.a) = true := by simpa using h4
            have hri : d.right = false := by
              have hno : PL v = false := by
                have e : decide (v.a ≤ 4) = false := by simpa using h4
                unfold PL; rw [e]; simp
              have := allP_no (l := d.ins) (j := j) (by rw [HN0.out]; exact hjn) (by rw [HX.out]; exact hno)
              unfold WD.right r0
              rw [this]
              simp
            have HRI := Lib.hid hri
            clear hri hvr
            go_wp2_with fail
            go_ret
            exact ⟨by rw [HRI.out]; rfl, HK.out⟩
          · have hd2 : decide (4 < v.a) = false := by simpa using h4
            have HT := Lib.hid (show ∀ t, t < j + 1 → PL (d.ins.getD t Val.dflt) = true from fun t ht => by
              by_cases htj : t < j
              · exact HA.out t htj
              · obtain rfl : t = j := by omega
                rw [HX.out]
                have e1 : decide (1 ≤ v.a) = true := by simp; omega
                have e2 : decide (v.a ≤ 4) = true := by simp; omega
                unfold PL; rw [hvr, e1, e2]; rfl)
            clear hvr
            go_wp2_with fail
            exact ⟨⟨j + 1, by omega, by go_num, HT, HQ⟩, by simp [intOf]; omega⟩
    · have hb : decide (j < n0) = false := by simpa using hjn
      have hall : allP d.ins = true := allP_yes (l := d.ins) (fun t ht => HA.out t (by rw [HN0.out] at ht; omega))
      have HN1 := Lib.hid (numbers_any (H1.out.clocks.since HS.out).at_ s.c1 1000 (-1000000000000000) 1000000000000000)
      have HN2 := Lib.hid (numbers_any (H1.out.choices.since HS.out).at_ s.c2 1000 (-1000000000) 1000000000)
      have HN3 := Lib.hid (numbers_any (H1.out.fuel.since HS.out).at_ s.c3 4 0 1000000000000000)
      have HN4 := Lib.hid (numbers_any (H1.out.limit.since HS.out).at_ s.c4 4 0 30000)
      have hri : d.right = (decide ((n0 : Int) ≤ 1000) && r1 d && r2 d && r3 d && r4 d && (decide (0 ≤ d.epoch) && decide (d.epoch ≤ 1000000000)) && r6 d && r7 d) := by
        unfold WD.right r0
        rw [hall, HN0.out, Bool.and_true]
        rfl
      change Hid (Calls _ _ _ _ fun e w' => e = Ending.returned (.bool (r1 d)) ∧ _) at HN1
      change Hid (Calls _ _ _ _ fun e w' => e = Ending.returned (.bool (r2 d)) ∧ _) at HN2
      change Hid (Calls _ _ _ _ fun e w' => e = Ending.returned (.bool (r3 d)) ∧ _) at HN3
      change Hid (Calls _ _ _ _ fun e w' => e = Ending.returned (.bool (r4 d)) ∧ _) at HN4
      obtain ⟨x1, hx1⟩ : ∃ x, r1 d = x := ⟨_, rfl⟩
      obtain ⟨x2, hx2⟩ : ∃ x, r2 d = x := ⟨_, rfl⟩
      obtain ⟨x3, hx3⟩ : ∃ x, r3 d = x := ⟨_, rfl⟩
      obtain ⟨x4, hx4⟩ : ∃ x, r4 d = x := ⟨_, rfl⟩
      have h6 : r6 d = decide (0 < d.fuel.length) := rfl
      have h7 : r7 d = decide (d.fuel.length = d.limit.length) := rfl
      rw [hx1, hx2, hx3, hx4, h6, h7] at hri
      rw [hx1] at HN1
      rw [hx2] at HN2
      rw [hx3] at HN3
      rw [hx4] at HN4
      obtain ⟨nf, hnf⟩ : ∃ nf, d.fuel.length = nf := ⟨_, rfl⟩
      obtain ⟨nl, hnl⟩ : ∃ nl, d.limit.length = nl := ⟨_, rfl⟩
      rw [hnf] at HN3 hri b3
      rw [hnl] at HN4 hri b4
      obtain ⟨x0, hx0⟩ : ∃ x, decide ((n0 : Int) ≤ 1000) = x := ⟨_, rfl⟩
      obtain ⟨x6, hx6⟩ : ∃ x, decide (0 < nf) = x := ⟨_, rfl⟩
      obtain ⟨x7, hx7⟩ : ∃ x, decide (nf = nl) = x := ⟨_, rfl⟩
      rw [hx0, hx6, hx7] at hri
      have hx7' : ((nf : Int) == (nl : Int)) = x7 := by
        rw [← hx7, Bool.eq_iff_iff]
        simp
        omega
      have hx6' : decide ((0 : Int) < (nf : Int)) = x6 := by
        rw [← hx6, Bool.eq_iff_iff]
        simp
      have hx0' : decide (n0 ≤ 1000) = x0 := by
        rw [← hx0, Bool.eq_iff_iff]
        simp
        omega
      have HRI := Lib.hid hri
      have HKO := Lib.hid (Keep.trans S1.out (Since.mono HS.out S1.out.size))
      clear hri hx1 hx2 hx3 hx4 h6 h7 hall hnf hnl f1 f2 f3 f4
      go_wp2_with fail
      ((with_reducible refine HN1.out.mono ?_); rintro e w' ⟨rfl, rfl⟩)
      go_wp2_with fail
      ((with_reducible refine HN2.out.mono ?_); rintro e w' ⟨rfl, rfl⟩)
      go_wp2_with fail
      ((with_reducible refine HN3.out.mono ?_); rintro e w' ⟨rfl, rfl⟩)
      go_wp2_with fail
      ((with_reducible refine HN4.out.mono ?_); rintro e w' ⟨rfl, rfl⟩)
      clear HN1 HN2 HN3 HN4
      cases hy1 : decide (0 ≤ d.epoch) with
      | false =>
        rw [hy1] at HRI
        cases x0 with
        | false =>
          go_wp2_with fail
          go_ret
          exact ⟨by rw [HRI.out]; simp, HKO.out⟩
        | true =>
          cases x1 with
          | false =>
            go_wp2_with fail
            go_ret
            exact ⟨by rw [HRI.out]; simp, HKO.out⟩
          | true =>
            cases x2 with
            | false =>
              go_wp2_with fail
              go_ret
              exact ⟨by rw [HRI.out]; simp, HKO.out⟩
            | true =>
              cases x3 with
              | false =>
                go_wp2_with fail
                go_ret
                exact ⟨by rw [HRI.out]; simp, HKO.out⟩
              | true =>
                cases x4 with
                | false =>
                  go_wp2_with fail
                  go_ret
                  exact ⟨by rw [HRI.out]; simp, HKO.out⟩
                | true =>
                  go_wp2_with fail
                  go_ret
                  exact ⟨by rw [HRI.out]; simp, HKO.out⟩
      | true =>
        rw [hy1] at HRI
        cases hy2 : decide (d.epoch ≤ 1000000000) with
        | false =>
          rw [hy2] at HRI
          cases x0 with
          | false =>
            go_wp2_with fail
            go_ret
            exact ⟨by rw [HRI.out]; simp, HKO.out⟩
          | true =>
            cases x1 with
            | false =>
              go_wp2_with fail
              go_ret
              exact ⟨by rw [HRI.out]; simp, HKO.out⟩
            | true =>
              cases x2 with
              | false =>
                go_wp2_with fail
                go_ret
                exact ⟨by rw [HRI.out]; simp, HKO.out⟩
              | true =>
                cases x3 with
                | false =>
                  go_wp2_with fail
                  go_ret
                  exact ⟨by rw [HRI.out]; simp, HKO.out⟩
                | true =>
                  cases x4 with
                  | false =>
                    go_wp2_with fail
                    go_ret
                    exact ⟨by rw [HRI.out]; simp, HKO.out⟩
                  | true =>
                    go_wp2_with fail
                    go_ret
                    exact ⟨by rw [HRI.out]; simp, HKO.out⟩
        | true =>
          rw [hy2] at HRI
          cases x0 with
          | false =>
            go_wp2_with fail
            go_ret
            exact ⟨by rw [HRI.out]; simp, HKO.out⟩
          | true =>
            cases x1 with
            | false =>
              go_wp2_with fail
              go_ret
              exact ⟨by rw [HRI.out]; simp, HKO.out⟩
            | true =>
              cases x2 with
              | false =>
                go_wp2_with fail
                go_ret
                exact ⟨by rw [HRI.out]; simp, HKO.out⟩
              | true =>
                cases x3 with
                | false =>
                  go_wp2_with fail
                  go_ret
                  exact ⟨by rw [HRI.out]; simp, HKO.out⟩
                | true =>
                  cases x4 with
                  | false =>
                    go_wp2_with fail
                    go_ret
                    exact ⟨by rw [HRI.out]; simp, HKO.out⟩
                  | true =>
                    cases x6 with
                    | false =>
                      go_wp2_with fail
                      go_ret
                      exact ⟨by rw [HRI.out]; simp, HKO.out⟩
                    | true =>
                      cases x7 with
                      | false =>
                        go_wp2_with fail
                        go_ret
                        exact ⟨by rw [HRI.out]; simp, HKO.out⟩
                      | true =>
                        go_wp2_with fail
                        go_ret
                        exact ⟨by rw [HRI.out]; simp, HKO.out⟩
end Go.Proofs.Ytbbeoeoengogpaa
