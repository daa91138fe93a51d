/- Install: Safe. -/
import Derived.Test.YtnhajhejkecihaaI5
namespace Go.Proofs.Ytnhajhejkecihaa
open Go.RowKit Go.Lib
set_option linter.unusedVariables false
set_option linter.unusedSimpArgs false

set_option maxRecDepth 100000 in
set_option maxHeartbeats 4000000 in
theorem safe_busy {n : Nat} {w : World} {p : Nat} {r : SR} {s : MS} (h : IsStore n w p r s) {c : Nat} (hc : c < s.inn.length) (hin : 0 ≤ s.inn.getD c 0) : Calls Try.prog 9 #[.pointer (some ⟨p, 0, none⟩), .int .i64 c] w fun e w' => e = .returned (.int .i64 41) ∧ w = w' := by
  have HC := Lib.hid (closed_any h)
  have HP := Lib.hid (cpu_any h c hc)
  have c1 := h.c1
  obtain ⟨q0, q1⟩ := h.innc hc
  obtain ⟨v, hv⟩ : ∃ v, s.inn.getD c 0 = v := ⟨_, rfl⟩
  rw [hv] at q0 hin
  have hb : decide (c < s.inn.length) = true := by simpa using hc
  have hneg : decide (0 ≤ v) = true := by simp; omega
  clear h hv
  go_enter Try.func9, Try.ntmps9
  go_wp2_with fail
  ((with_reducible refine HC.out.mono ?_); rintro e w' ⟨rfl, rfl⟩)
  go_wp2_with fail
  ((with_reducible refine HP.out.mono ?_); rintro e w' ⟨rfl, rfl⟩)
  clear HC HP
  go_wp2_with fail
  go_ret
  exact ⟨rfl, rfl⟩
/-- A store while Safe goes over it. -/
structure SV (n : Nat) (w0 : World) (p : Nat) (r : SR) (s : MS) (W : World) : Prop where
  st : IsStore n W p r s
  since : Keep (r.foot p) w0 W
theorem SV.draw {n : Nat} {w0 : World} {p : Nat} {r : SR} {s : MS} {W : World} (h : SV n w0 p r s W) : SV n w0 p r s W.drew :=
  ⟨h.st.quiet (keep_draw (fun _ => False) W), Keep.trans h.since (keep_draw _ W)⟩
theorem passed_inv {s : MS} (h : s.Inv) {k : Nat} (hk : k < s.all.length) (c : Nat) : (s.put k ((s.all.getD k ME.dflt).passed c)).Inv :=
  s.put_inv h hk _ rfl rfl rfl (by
    show ((s.all.getD k ME.dflt).owed.set c false).length = _
    rw [List.length_set]
    exact h.owed _ (getD_mem hk))
set_option maxRecDepth 100000 in
set_option maxHeartbeats 4000000 in
theorem safe_any {n : Nat} {w : World} {p : Nat} {r : SR} {s : MS} (h : IsStore n w p r s) {c : Nat} (hc : c < s.inn.length) (hin : s.inn.getD c 0 < 0) : Calls Try.prog 9 #[.pointer (some ⟨p, 0, none⟩), .int .i64 c] w fun e w' => e = .returned (.int .i64 0) ∧ ∃ r', IsStore n w' p r' (s.passed c) ∧ Keep (r.foot p) w w' ∧ ∀ k, r'.foot p k → r.foot p k ∨ w.heap.size ≤ k := by
  have HC := Lib.hid (closed_any h)
  have HP := Lib.hid (cpu_any h c hc)
  have c1 := h.c1
  have c2 := h.c2
  have hN := h.inv.few
  obtain ⟨q0, q1⟩ := h.innc hc
  obtain ⟨v, hv⟩ : ∃ v, s.inn.getD c 0 = v := ⟨_, rfl⟩
  rw [hv] at q0 hin
  have hb : decide (c < s.inn.length) = true := by simpa using hc
  have hneg : decide (0 ≤ v) = false := by simp; omega
  have H := Lib.hid (And.intro h (And.intro hc h.inv.cpus.2))
  obtain ⟨N, hNN⟩ : ∃ N, s.all.length = N := ⟨_, rfl⟩
  have HN := Lib.hid hNN
  rw [hNN] at c2 hN
  clear h hv hNN
  go_enter Try.func9, Try.ntmps9
  go_wp2_with fail
  ((with_reducible refine HC.out.mono ?_); rintro e w' ⟨rfl, rfl⟩)
  go_wp2_with fail
  ((with_reducible refine HP.out.mono ?_); rintro e w' ⟨rfl, rfl⟩)
  clear HC HP
  go_wp2_with fail
  clear c1 c2 q0 q1 hb hneg
  have V0 : Hid (SV n w p r (s.passing c 0) w) := Lib.hid ⟨by rw [passing_zero]; exact H.out.1, Keep.refl _ _⟩
  go_loopw [30] (fun i wr => ∃ k : Nat, k ≤ N ∧ i = .int .i64 (k : Int) ∧ Hid (SV n w p r (s.passing c k) wr)) (fun i _ => N + 1 - (intOf i).toNat)
  case atStart => exact ⟨0, Nat.zero_le _, rfl, V0⟩
  case round =>
    obtain ⟨k, hk, rfl, VV⟩ := hrel
    obtain ⟨wo, rfl⟩ : ∃ wo : World, wo = wr := ⟨_, rfl⟩
    clear V0
    by_cases hlt : k < N
    · have hbk : decide (k < N) = true := by simpa using hlt
      have hkN : k < s.all.length := by rw [HN.out]; exact hlt
      have hkP : k < (s.passing c k).all.length := by rw [passing_length]; exact hkN
      have hat := passing_at s c k hkN
      have hst := VV.out.st
      obtain ⟨g, hg, hp⟩ := hst.ptr hkP
      have hfb := (hst.ents k hkP).2
      have e1 := hst.ecell hkP 1
      have e4 := hst.ecell hkP 4
      have e12 := hst.ecell hkP 12
      have c0 := hst.c0
      have hsz := H.out.1.inv.size _ (getD_mem (x := ME.dflt) hkN)
      rw [hat] at hfb e1 e4 e12
      obtain ⟨eb, heb⟩ : ∃ eb, r.es.getD k 0 = eb := ⟨_, rfl⟩
      obtain ⟨e, he⟩ : ∃ e, s.all.getD k ME.dflt = e := ⟨_, rfl⟩
      obtain ⟨o, ho⟩ : ∃ o, r.os.getD k 0 = o := ⟨_, rfl⟩
      rw [he] at hfb e1 e4 e12 hsz
      rw [heb] at e1 e4 e12 hp
      rw [ho] at hfb e12
      replace e1 : wo.cell? ⟨eb, 1, none⟩ = some (.int .i64 ((16 * e.a : Nat) : Int)) := e1.trans rfl
      replace e4 : wo.cell? ⟨eb, 4, none⟩ = some (.string (sb e.bytes)) := e4.trans rfl
      replace e12 : wo.cell? ⟨eb, 12, none⟩ = some (.map (some o)) := e12.trans rfl
      have hlk := hfb.look (t := 64) Try.underlying3 Try.underlying64 Try.underlying4 (by kernel_rfl) (i := (c : Int)) (wf64 (by have := H.out.2; omega))
      rw [owedS_nat] at hlk
      rw [hg]
      have HE := Lib.hid (And.intro he (And.intro heb ho))
      obtain ⟨d, hd⟩ : ∃ d, e.owed.getD c false = d := ⟨_, rfl⟩
      rw [hd] at hlk
      cases d with
      | false =>
        have hps := passing_put s c k hkN
        rw [he, ME.passed_free hd] at hps
        have VN : Hid (SV n w p r (s.passing c (k + 1)) wo) := by
          rw [← hps]
          have : (s.passing c k).put k e = s.passing c k := by
            unfold MS.put
            have h2 : (s.passing c k).all.set k e = (s.passing c k).all := by
              rw [← he, ← hat, getD_eq' _ _ _ hkP, List.set_getElem_self]
            rw [h2]
          rw [this]
          exact VV
        clear hps hd he heb ho hat hfb hst hg hsz
        go_wp2_with fail
        exact ⟨⟨k + 1, by omega, by go_num, VN⟩, by simp [intOf]; omega⟩
      | true =>
        obtain ⟨L, hL⟩ : ∃ L, e.bytes.length = L := ⟨_, rfl⟩
        have hss : (sb e.bytes).size = L := by rw [sb_size, hL]
        obtain ⟨a, ha⟩ : ∃ a, e.a = a := ⟨_, rfl⟩
        have hst2 : 16 * a + L ≤ 4096 := by
          have h2 := hsz.2
          change e.a + lns e.bytes.length ≤ 256 at h2
          rw [hL, ha] at h2
          unfold lns at h2
          omega
        have HFL : Hid (Calls Try.prog 24 #[.pointer (some ⟨r.bb, 0, none⟩), .int .i64 c, .int .i64 ((16 * a : Nat) : Int), .int .i64 L] wo.drew fun ee w' => ee = .returned (.int .i64 0) ∧
            ∃ w2 : TypeId → World, (∀ ty, (Builtin.delete_ #[64, 3] ty #[.map (some o), .int .i64 c]).run Try.prog w' = .ok (.tuple #[]) (w2 ty) ∧ SV n w p r (s.passing c (k + 1)) (w2 ty)) ∧ w'.cell? ⟨eb, 12, none⟩ = some (.map (some o))) := by
          obtain ⟨M, fs, hbd, hco⟩ := VV.out.draw.st.board
          have hfl : c < fs.length := by rw [hco.len]; exact H.out.2.1
          refine Lib.hid ((flush_any hbd c a L hfl hst2).mono ?_)
          rintro ee w' ⟨rfl, hb2, hk2⟩
          have hm0 : r.br.ms.getD c 0 ∈ r.br.ms := getD_mem (by rw [hbd.msl]; exact hfl)
          have hfs := hco.flushed hkP hfl
          rw [hat, he, hL, ha] at hfs
          have st2 := VV.out.draw.st.turnBoard hb2 hfs.1 hk2 (.inr hm0)
          have sc2 : Keep (r.foot p) w w' := Keep.trans VV.out.draw.since (Keep.mono hk2 (fun i hi => by rw [hi]; exact .inr (.inl (.inr (.inr (.inr hm0))))))
          have hf2 := (st2.ents k hkP).2
          have e12b := st2.ecell hkP 12
          rw [hat, he, ho] at hf2
          rw [hat, he, heb, ho] at e12b
          have hdel := fun ty => hf2.del (t := 64) Try.underlying3 Try.underlying64 (i := (c : Int)) (wf64 (by have := H.out.2; omega)) ty
          refine ⟨rfl, fun ty => (hdel ty).choose, fun ty => ⟨(hdel ty).choose_spec.1, ?_⟩, e12b.trans rfl⟩
          obtain ⟨_, hfd, hkd⟩ := (hdel ty).choose_spec
          show SV n w p r (s.passing c (k + 1)) (hdel ty).choose
          obtain ⟨wx, hwx⟩ : ∃ wx, (hdel ty).choose = wx := ⟨_, rfl⟩
          rw [hwx] at hfd hkd ⊢
          rw [owedS_nat, hd, if_pos rfl, owedS_set, ← count_set5 _ _ hd] at hfd
          have hpi := passed_inv VV.out.st.inv hkP c
          rw [hat, he] at hpi
          have hps := passing_put s c k hkN
          rw [he] at hps
          have un := st2.unowe hkP (e.passed c) (by rw [hat, he]; rfl) (by rw [ho]; exact hfd) (by rw [ho]; exact hkd) hpi hb2 hfs.2
          rw [hps] at un
          exact ⟨un, Keep.trans sc2 (Keep.mono hkd (fun i hi => by rw [hi, ← ho]; exact .inr (.inr (.inr (.inr (.inr (getD_mem (by rw [VV.out.st.oslen.1]; exact hkP))))))))⟩
        rw [ha] at e1
        obtain ⟨A16, hA16⟩ : ∃ A16 : Int, ((16 * a : Nat) : Int) = A16 := ⟨_, rfl⟩
        rw [hA16] at e1 HFL
        obtain ⟨sv, hsv⟩ : ∃ sv, sb e.bytes = sv := ⟨_, rfl⟩
        rw [hsv] at e4 hss
        clear hd he heb ho hat hfb hst hg hsz hL ha hst2 hA16 hsv
        go_wp2_with fail
        go_still_tail 15, (by kernel_rfl)
        change wpList _ _ _ _ _ wo.drew
        have y0 : wo.drew.cell? ⟨p, 0, none⟩ = _ := c0
        have y1 : wo.drew.cell? ⟨eb, 1, none⟩ = _ := e1
        have y4 : wo.drew.cell? ⟨eb, 4, none⟩ = _ := e4
        clear c0 e1 e4 e12 hlk hp
        obtain ⟨wd, hwd⟩ : ∃ wd, wo.drew = wd := ⟨_, rfl⟩
        rw [hwd] at y0 y1 y4 HFL ⊢
        clear hwd
        go_wp2_with fail
        ((with_reducible refine HFL.out.mono ?_); rintro ee w1 ⟨rfl, w2, hdl, e12⟩)
        have hrun := fun ty => (hdl ty).1
        have HS := Lib.hid (fun ty => (hdl ty).2)
        clear hdl HFL y0 y1 y4
        go_wp2_with fail
        exact ⟨⟨k + 1, by omega, by go_num, Lib.hid (HS.out _)⟩, by simp [intOf]; omega⟩
    · have hbk : decide (k < N) = false := by simpa using hlt
      obtain rfl : k = N := by omega
      have hs1 : s.passing c k = { s with all := s.all.map (ME.passed c) } := by rw [← HN.out]; exact passing_all s c
      have hst := VV.out.st
      rw [hs1] at hst
      obtain ⟨s1, hs1'⟩ : ∃ s1 : MS, ({ s with all := s.all.map (ME.passed c) } : MS) = s1 := ⟨_, rfl⟩
      have hfin : s.passed c = { s1 with all := (kept (goneAt s1) s1.all.length).map (s1.all.getD · ME.dflt) } := by
        rw [kept_all, ← hs1']
        rfl
      have hl1 : s1.all.length = k := by rw [← hs1', ← HN.out]; simp
      rw [hs1'] at hst
      have HD := Lib.hid (delE_any hst)
      have c2 := hst.c2
      have f2 := blk_free hst.hdr 2
      rw [hl1] at HD c2
      have HFIN := Lib.hid hfin
      have HS := Lib.hid (And.intro hst hl1)
      have HV := Lib.hid VV.out.since
      obtain ⟨m, hm⟩ : ∃ m, (kept (goneAt s1) k).length = m := ⟨_, rfl⟩
      rw [hm] at HD
      have HM := Lib.hid hm
      unfold predF at HD
      clear hst hs1 hs1' hfin VV hl1 hm
      go_wp2_with fail
      ((with_reducible refine HD.out.mono ?_); rintro e w2 ⟨rfl, hrow, hk2⟩)
      obtain ⟨hst, hl1⟩ := HS.out
      have c2' : ∃ u, w2.cell? ⟨p, 2, none⟩ = some u ∧ w2.frozen? ⟨p, 2, none⟩ = false := by
        have far : ¬ ∃ a, r.A = some a ∧ p = a.block := fun ⟨a, ha, e⟩ => by
          obtain ⟨cs, hcs⟩ := own_type hst.row (k := a.block) (by rw [ha]; rfl)
          exact cells_ne hst.hdr hcs (by decide) e
        have hp := (hk2.block p (blk_lt hst.hdr) far).trans hst.hdr
        exact ⟨_, (blk_cell hp 2).trans rfl, blk_free hp 2⟩
      obtain ⟨u2, c22, f22⟩ := c2'
      have hsv := hst.sieved (A := r.A) (ac := r.ac) (w1 := w2) (kept (goneAt s1) s1.all.length) (fun i hi => (kept_mem hi).1) (fun l d hl => kept_sub (goneAt s1) _ l d hl) (by rw [hl1, HM.out]; rw [hl1] at *; exact hrow) hk2
      have hln : (kept (goneAt s1) s1.all.length).length = m := by rw [hl1]; exact HM.out
      rw [hln] at hsv
      have HF := Lib.hid (And.intro hsv (Keep.trans HV.out (Keep.trans (Keep.mono hk2 (F' := r.foot p) (fun i ⟨a, ha, e⟩ => .inr (.inr (.inr (.inl ⟨a, ha, e⟩))))) (Keep.mono (keep_set (Keep.refl (fun k => k = p) w2) 2 (.slice r.A m r.ac)) (fun i hi => .inl hi)))))
      clear hsv hrow hk2 hst c2 f2
      go_wp2_with fail
      go_ret
      have hfx := HF.out.1
      rw [← HFIN.out] at hfx
      refine ⟨rfl, _, hfx, HF.out.2, fun k hk => .inl ?_⟩
      rcases hk with h1 | h1 | h1 | h1 | h1 | h1
      · exact .inl h1
      · exact .inr (.inl h1)
      · exact .inr (.inr (.inl h1))
      · exact .inr (.inr (.inr (.inl h1)))
      · exact .inr (.inr (.inr (.inr (.inl ((kept_sub (goneAt s1) _ r.es 0 HS.out.1.eslen).subset h1)))))
      · exact .inr (.inr (.inr (.inr (.inr ((kept_sub (goneAt s1) _ r.os 0 HS.out.1.oslen.1).subset h1)))))
end Go.Proofs.Ytnhajhejkecihaa
