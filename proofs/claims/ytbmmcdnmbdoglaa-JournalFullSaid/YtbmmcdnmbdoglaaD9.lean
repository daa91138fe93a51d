/- The contract of Crash. -/
import Derived.Test.YtbmmcdnmbdoglaaD8
import Derived.Maps.AppendAt
namespace Go.Proofs.Ytbmmcdnmbdoglaa
open Go.RowKit
set_option linter.unusedVariables false

theorem Below.cell? (w : World) (o : Obj) {a : Addr} {v : Value} (h : w.cell? a = some v) : (w.alloc o).cell? a = some v := by
  have hp : a.block < w.heap.size := World.block_lt_of_cell? w _ h
  exact (World.cell?_of_block (Below.heap_alloc w o a.block hp)).trans h
structure CInv (w0 : World) (ns : List Int) (d : DS) (wr : World) (v : Value) (k : Nat) : Prop where
  keep : Keep (fun _ => False) w0 wr
  own : wr.ownsRow 0 5 1 v (crashL ns 0 d.synced (d.parts.take k)).length (b8 (crashL ns 0 d.synced (d.parts.take k)))
  blk : ∀ b, v.ownBlock = some b → w0.heap.size ≤ b
  len : (crashL ns 0 d.synced (d.parts.take k)).length ≤ 16777216
theorem run_index_int (w : World) (b o n c i : Nat) (h : i < n) :
    (Instr.indexAt 40 (.slice (some ⟨b, o, none⟩) n c) (.int .i64 (i : Int))).run Try.prog w = .ok (.pointer (some ⟨b, o + i, none⟩)) w := by
  have h1 : (0 : Int) ≤ i := by omega
  have h2 : (i : Int) < n := by omega
  go_simp
theorem crash_next (ns : List Int) (d : DS) (k : Nat) (hk : k < d.parts.length) : crashL ns 0 d.synced (d.parts.take (k + 1)) =
    if lives ns k then putL (crashL ns 0 d.synced (d.parts.take k)) (d.parts.getD k (0, [])).1 (d.parts.getD k (0, [])).2 else crashL ns 0 d.synced (d.parts.take k) := by
  rw [List.take_succ_eq_append_getElem hk, crashL_snoc]
  have : (d.parts.take k).length = k := by simp; omega
  rw [this, Nat.zero_add, List.getD_eq_getElem?_getD, List.getElem?_eq_getElem hk]
  rfl
theorem CInv.skip {w0 wo w' : World} {ns : List Int} {d : DS} {v : Value} {k : Nat} (h : CInv w0 ns d wo v k) (hk : k < d.parts.length) (hl : lives ns k = false) (hp : Keep (fun _ => False) wo w') : CInv w0 ns d w' v (k + 1) := by
  have e := crash_next ns d k hk
  rw [hl] at e
  simp only [Bool.false_eq_true, if_false] at e
  exact ⟨h.keep.trans hp, by rw [e]; exact hp.own h.own (fun _ _ => id), h.blk, by rw [e]; exact h.len⟩
theorem CInv.put {w0 wo wa w' : World} {ns : List Int} {d : DS} {v v' : Value} {k po : Nat} {pt : Bytes} (h : CInv w0 ns d wo v k) (hk : k < d.parts.length) (hl : lives ns k = true) (hp : d.parts.getD k (0, []) = (po, pt)) (ha : Keep (fun _ => False) wo wa)
    (ho : w'.ownsRow 0 5 1 v' (putL (crashL ns 0 d.synced (d.parts.take k)) po pt).length (b8 (putL (crashL ns 0 d.synced (d.parts.take k)) po pt))) (hk2 : Keep (fun b => v.ownBlock = some b) wa w')
    (hv : v'.ownBlock = v.ownBlock ∨ ∃ b, v'.ownBlock = some b ∧ wa.heap.size ≤ b) (hlen : po + pt.length ≤ 16777216) : CInv w0 ns d w' v' (k + 1) := by
  have e := crash_next ns d k hk
  rw [hl, hp] at e
  simp only [if_true] at e
  have hsz := (h.keep.trans ha).size
  refine ⟨(h.keep.trans ha).then hk2 (fun i hi => .inr (h.blk i hi)), by rw [e]; exact ho, fun b hb => ?_, ?_⟩
  · rcases hv with hv | ⟨b', hv, hb'⟩
    · exact h.blk b (hv ▸ hb)
    · have : b = b' := Option.some.inj (hb.symm.trans hv)
      omega
  · rw [e, putL_length]
    have := h.len
    omega
theorem Keep.alloc' {w w' : World} (h : Keep (fun _ => False) w w') (o : Obj) : Keep (fun _ => False) w (w'.alloc o) :=
  h.trans ⟨rfl, rfl, rfl, by simp, fun k hk _ => Below.heap_alloc w' o k hk⟩

set_option maxHeartbeats 4000000 in
set_option maxRecDepth 100000 in
theorem crash_disk {w : World} {r : Rep} {d : DS} (h : IsDisk w r d) (S : Option Addr) (m sc : Nat) (ns : List Int) (hS : IntsAt w S m ns) (hns : ∀ x ∈ ns, -9223372036854775808 ≤ x ∧ x ≤ 9223372036854775807) (hn : d.parts.length ≤ 1000000000) :
    Calls Try.prog 18 #[.pointer (some ⟨r.p, 0, none⟩), .slice S m sc] w fun e w' => e = .returned (.pointer (some ⟨w.heap.size, 0, none⟩)) ∧ ∃ r', r'.p = w.heap.size ∧ IsDisk w' r' (d.crash ns) ∧ Keep (fun _ => False) w w' ∧ ∀ k, r'.foot k → w.heap.size ≤ k := by
  have hnew := new_disk w
  obtain ⟨w0, hw0⟩ : ∃ w0, w.alloc (.cells #[.slice none 0 0, .slice none 0 0, .slice none 0 0, .int .i64 0, .bool false, .int .i64 0] 59) = w0 := ⟨_, rfl⟩
  have hk0 : Keep (fun _ => False) w w0 := by rw [← hw0]; exact (Keep.refl _ w).alloc' _
  have hsz0 : w0.heap.size = w.heap.size + 1 := by rw [← hw0]; simp
  have hb0 : w0.heap[w.heap.size]? = some (.cells #[.slice none 0 0, .slice none 0 0, .slice none 0 0, .int .i64 0, .bool false, .int .i64 0] 59 (0, 0)) := by rw [← hw0]; exact heap_alloc_new _ _
  rw [hw0] at hnew
  have HNEW := Lib.hid hnew
  have hd0 := h.keep hk0 (fun _ _ => id)
  obtain ⟨A0, c0, A1, c1, A2, c2, e0, e1, e2, h0, h1, h2, h3, h4, h5, f0, f1, f2, f3, f4, f5⟩ := hd0.cells
  have hS0 : IntsAt w0 S m ns := hS.keep hk0 (fun _ _ => id)
  obtain ⟨A1', c1', e1', hnn, hcn⟩ := own_none hd0.syn
  rw [e1] at e1'
  cases e1'
  have HNN := Lib.hid hnn
  have HCN := Lib.hid hcn
  have hls : d.synced.length ≤ 16777216 := h.ok.syn
  have HS := Lib.hid hS0
  have HNS := Lib.hid hns
  have HD0 := Lib.hid hd0
  have HK0 := Lib.hid hk0
  have HB0 := Lib.hid hb0
  have HSZ0 := Lib.hid hsz0
  have HW0 := Lib.hid hw0
  have E2 := Lib.hid e2
  clear hnew hd0 hS hS0 hnn hcn hns hk0 hb0 hsz0 hw0 h h0 h3 h4 h5 f0 f1 f2 f3 f4 f5 e0 e1 e2
  go_enter Try.func18, Try.ntmps18
  go_wp2_with fail
  refine HNEW.out.mono ?_
  rintro e wx ⟨rfl, rfl⟩
  have h1' : (w0.alloc (.cells #[] 5)).cell? ⟨r.p, 1, none⟩ = some (.slice A1 d.synced.length c1) := (Below.cell? w0 _ h1)
  go_wp2_with (at_builtin; refine wpList_append_src 43 5 (.int .u8 0) 1 0 Try.bytes _ _ rfl rfl (.slice (some ⟨w0.heap.size, 0, none⟩) 0 0) 0 [] rfl (by exact own_new w0 5 #[] 0 0 rfl (by decide) (Nat.zero_le _)) A1 d.synced.length c1 (b8 d.synced) rfl HNN.out (HCN.out.alloc _) (b8_one _) (by omega) (by decide) (by omega) ?_)
  intro v1 w1 hown1 hg1 _ hat1
  have hv1 : ∀ b, v1.ownBlock = some b → w0.heap.size ≤ b := by
    intro b hb
    rcases hat1 with h | h
    · rw [h] at hb
      have := Option.some.inj hb
      exact Nat.le_of_eq this
    · rw [h] at hb
      have := Option.some.inj hb
      omega
  have hk1 : Keep (fun _ => False) w0 w1 := by
    refine Keep.grown ((Keep.refl _ w0).alloc' _) hg1 (fun k hk => .inr ?_)
    have := Option.some.inj hk
    exact Nat.le_of_eq this
  have HC1 := Lib.hid (show CInv w0 ns d w1 v1 0 from ⟨hk1, hown1, hv1, hls⟩)
  have h2' : w1.cell? ⟨r.p, 2, none⟩ = some (.slice A2 d.parts.length c2) := (hk1.cell (World.block_lt_of_cell? _ _ h2) id).trans h2
  clear hown1 hg1 hat1 hv1 hk1 h1' h1 h2
  go_wp2_with fail
  clear h2'
  go_loopw [6, 25] (fun v i wr => ∃ k : Nat, k ≤ d.parts.length ∧ i = .int .i64 k ∧ Hid (CInv w0 ns d wr v k)) (fun _ i _ => d.parts.length - (intOf i).toNat)
  case atStart => exact ⟨0, Nat.zero_le _, rfl, HC1⟩
  case round =>
    obtain ⟨k, hk, rfl, HC⟩ := hrel
    obtain ⟨wo, rfl⟩ : ∃ wo : World, wo = wr := ⟨_, rfl⟩
    obtain ⟨v, rfl⟩ : ∃ v, v = u6 := ⟨_, rfl⟩
    by_cases hlt : k < d.parts.length
    · obtain ⟨g, cap, hpv, _, _⟩ := HD0.out.prt.form (by omega)
      have e3 := E2.out
      rw [hpv] at e3
      injection e3 with e4 _ e5
      subst e4
      subst e5
      have hprt := HD0.out.prt
      rw [hpv] at hprt
      have hglt := own_lt hprt g rfl
      obtain ⟨p0, p1⟩ := pcs_at d.parts r.tx k HD0.out.txl hlt
      have hx0 : wo.cell? ⟨g, k * 2, none⟩ = _ := ((HC.out.keep.cell (p := ⟨g, k * 2, none⟩) hglt id).trans (hprt.cellAt (k * 2) (by omega))).trans p0
      have hx1 : wo.cell? ⟨g, k * 2 + 1, none⟩ = _ := ((HC.out.keep.cell (p := ⟨g, k * 2 + 1, none⟩) hglt id).trans (hprt.cellAt (k * 2 + 1) (by omega))).trans p1
      obtain ⟨⟨po, pt⟩, hpk⟩ : ∃ q, d.parts.getD k (0, []) = q := ⟨_, rfl⟩
      obtain ⟨⟨ta, tc⟩, htk⟩ : ∃ q, r.tx.getD k dflA = q := ⟨_, rfl⟩
      rw [hpk] at hx0 hx1
      rw [htk] at hx1
      simp only at hx0 hx1
      have HPK := Lib.hid hpk
      have HTK := Lib.hid htk
      clear hprt hpv p0 p1 hpk htk
      by_cases hm : 0 < m
      · obtain ⟨sb0, so, rfl, hsx⟩ := IntsAt.at_ (HS.out.keep HC.out.keep (fun _ _ => id)) (k % m) (Nat.mod_lt _ hm)
        obtain ⟨x, hx⟩ : ∃ x, ns.getD (k % m) 0 = x := ⟨_, rfl⟩
        have hxb : -9223372036854775808 ≤ x ∧ x ≤ 9223372036854775807 := by
          rw [← hx]
          exact HNS.out _ (getD_mem (by rw [HS.out.length]; exact Nat.mod_lt _ hm))
        rw [hx] at hsx
        have hsx' := Below.cell? wo (.cells #[.int .i64 (po : Int), .slice (some ta) pt.length tc] 68) hsx
        have hidx := fun w => run_index_int w sb0 so m sc (k % m) (Nat.mod_lt _ hm)
        rw [show ((k % m : Nat) : Int) = (k : Int) % (m : Int) by simp] at hidx
        have hml : k % m < m := Nat.mod_lt _ hm
        have hliv : lives ns k = (x.tmod 2 != 0) := by
          unfold lives
          rw [HS.out.length, hx]
          simp [hm]
        have HLIV := Lib.hid hliv
        clear hx hsx hliv
        have hmb : decide (0 < m) = true := by simpa using hm
        by_cases hx2 : x.tmod 2 = 0
        · have hliv : lives ns k = false := by rw [HLIV.out, hx2]; rfl
          have HL := Lib.hid hliv
          clear hliv
          go_wp2_with fail
          exact ⟨⟨k + 1, by omega, by go_num, Lib.hid (HC.out.skip hlt HL.out ((Keep.refl _ wo).alloc' _))⟩, by simp [intOf]; omega⟩
        · have hliv : lives ns k = true := by rw [HLIV.out]; simpa using hx2
          have HL := Lib.hid hliv
          have hpart := HD0.out.ok.part _ (getD_mem (x := ((0, []) : Nat × Bytes)) hlt)
          rw [HPK.out] at hpart
          have hka : Keep (fun _ => False) wo (wo.alloc (.cells #[.int .i64 (po : Int), .slice (some ta) pt.length tc] 68)) := (Keep.refl _ wo).alloc' _
          have hput := put_any (wo.alloc (.cells #[.int .i64 (po : Int), .slice (some ta) pt.length tc] 68)) v (crashL ns 0 d.synced (d.parts.take k)) po (some ta) tc pt (hka.own HC.out.own (fun _ _ => id)) (by
              have h1 := HD0.out.txt k hlt
              rw [HTK.out, HPK.out] at h1
              exact (h1.keep HC.out.keep (fun _ _ => id)).keep hka (fun _ _ => id))
            (fun b hb e => by
              have h1 := Option.some.inj hb
              have h2 := HC.out.blk _ e
              have h3 := HD0.out.txt_lt _ (getD_mem (x := dflA) (by rw [HD0.out.txl]; exact hlt : k < r.tx.length))
              rw [HTK.out] at h3
              rw [← h1] at h2
              simp only at h3
              omega) HC.out.len hpart.1
          have HPUT := Lib.hid hput
          have HPART := Lib.hid hpart
          have HKA := Lib.hid hka
          clear hput hliv hpart hka
          go_wp2_with fail
          refine HPUT.out.mono ?_
          rintro e w2 ⟨v', rfl, hown2, hk2, hv2⟩
          have HC2 := Lib.hid (HC.out.put hlt HL.out HPK.out HKA.out hown2 hk2 hv2 HPART.out.1)
          clear hown2 hk2 hv2
          go_wp2_with fail
          exact ⟨⟨k + 1, by omega, by go_num, HC2⟩, by simp [intOf]; omega⟩
      · have hmb : decide (0 < m) = false := by simpa using hm
        have hliv : lives ns k = false := by
          unfold lives
          rw [HS.out.length]
          simp [hm]
        have HL := Lib.hid hliv
        clear hliv
        go_wp2_with fail
        exact ⟨⟨k + 1, by omega, by go_num, Lib.hid (HC.out.skip hlt HL.out ((Keep.refl _ wo).alloc' _))⟩, by simp [intOf]; omega⟩
    · obtain rfl : k = d.parts.length := by omega
      have hc := HC.out
      have hown := hc.own
      have hlc := hc.len
      rw [List.take_length] at hown hlc
      obtain ⟨cc, hcc⟩ : ∃ cc, crashL ns 0 d.synced d.parts = cc := ⟨_, rfl⟩
      rw [hcc] at hown hlc
      obtain ⟨Av, cv, rfl, hnv, hcv⟩ := own_none hown
      have hbo : wo.heap[w.heap.size]? = _ := (hc.keep.block w.heap.size (by rw [HSZ0.out]; omega) id).trans HB0.out
      have hq0 : wo.cell? ⟨w.heap.size, 0, none⟩ = some (.slice none 0 0) := by rw [blk_cell hbo]; rfl
      have hq1 : wo.cell? ⟨w.heap.size, 1, none⟩ = some (.slice none 0 0) := by rw [blk_cell hbo]; rfl
      have hf0 := blk_free hbo 0
      have hf1 := blk_free hbo 1
      have hkS : Keep (fun k => k = w.heap.size) wo (wo.setCell ⟨w.heap.size, 0, none⟩ (.slice Av cc.length cv)) := keep_set (Keep.refl _ _) _ _
      have hbS := blk_set hbo 0 (.slice Av cc.length cv)
      have hneW : ∀ b, (Value.slice Av cc.length cv).ownBlock = some b → b ≠ w.heap.size := fun b hb => by
        have := hc.blk b hb
        have := HSZ0.out
        omega
      have hownS := hkS.own hown hneW
      obtain ⟨_, _, e9, hnnS, hcS⟩ := own_none hownS
      cases e9
      have hszS : (wo.setCell ⟨w.heap.size, 0, none⟩ (.slice Av cc.length cv)).heap.size = wo.heap.size := by simp [World.setCell]
      have hCsz := hc.keep.size
      have HOWN := Lib.hid hown
      have HCS := Lib.hid hcS
      have HNNS := Lib.hid hnnS
      have HKS := Lib.hid hkS
      have HBS := Lib.hid hbS
      have HCC := Lib.hid hcc
      have HCV := Lib.hid hcv
      have HBO := Lib.hid hbo
      have HNEW2 := Lib.hid hneW
      have HOWNS := Lib.hid hownS
      have HSZS := Lib.hid hszS
      clear hc hown hcc hnv hcv hbo hkS hbS hneW hownS hcS hnnS hszS
      go_wp2_with (at_builtin; refine wpList_append_src 43 5 (.int .u8 0) 1 0 Try.bytes _ _ rfl rfl (.slice (some ⟨wo.heap.size, 0, none⟩) 0 0) 0 [] rfl (by have := own_new (wo.setCell ⟨w.heap.size, 0, none⟩ (.slice Av cc.length cv)) 5 #[] 0 0 rfl (by decide) (Nat.zero_le _); rw [HSZS.out] at this; exact this) Av cc.length cv (b8 cc) rfl HNNS.out (HCS.out.alloc _) (b8_one _) (by omega) (by decide) (by omega) ?_)
      intro v2 w2 hown2 hg2 _ hat2
      obtain ⟨A3, c3, rfl⟩ := own_slice hown2
      have hWlt : w.heap.size < wo.heap.size := by
        have := hCsz
        have := HSZ0.out
        omega
      have hb2 : w2.heap[w.heap.size]? = _ := ((hg2.block w.heap.size (by simp [World.setCell]; omega) (fun e => by have h5 : w.heap.size = wo.heap.size := Option.some.inj e; omega)).trans (Below.heap_alloc _ _ _ (by simp [World.setCell]; omega))).trans HBS.out
      have hq2 : w2.cell? ⟨w.heap.size, 1, none⟩ = some (.slice none 0 0) := by rw [blk_cell hb2]; rfl
      have hf2 := blk_free hb2 1
      have hk2 : Keep (fun _ => False) (wo.setCell ⟨w.heap.size, 0, none⟩ (.slice Av cc.length cv)) w2 := by
        refine Keep.grown ((Keep.refl _ _).alloc' _) hg2 (fun k hk => .inr ?_)
        have h5 : wo.heap.size = k := Option.some.inj hk
        have := HSZS.out
        omega
      have hv2 : ∀ b, (Value.slice A3 cc.length c3).ownBlock = some b → wo.heap.size ≤ b := by
        intro b hb
        rcases hat2 with h | h
        · rw [h] at hb
          have := Option.some.inj hb
          exact Nat.le_of_eq this
        · rw [h] at hb
          have := Option.some.inj hb
          omega
      have HOWN2 := Lib.hid hown2
      have HK2 := Lib.hid hk2
      have HV2 := Lib.hid hv2
      have HB2 := Lib.hid hb2
      clear hown2 hg2 hat2 hk2 hv2 hb2 hq0 hq1 hf0 hf1
      go_wp2_with fail
      go_ret
      have hkE : Keep (fun k => k = w.heap.size) w2 (w2.setCell ⟨w.heap.size, 1, none⟩ (.slice A3 cc.length c3)) := keep_set (Keep.refl _ _) _ _
      have hkA : Keep (fun _ => False) w (w2.setCell ⟨w.heap.size, 1, none⟩ (.slice A3 cc.length c3)) :=
        (((HK0.out.trans HC.out.keep).then HKS.out (fun i hi => .inr (by omega))).trans HK2.out).then hkE (fun i hi => .inr (by omega))
      refine ⟨rfl, ⟨w.heap.size, .slice Av cc.length cv, .slice A3 cc.length c3, .slice none 0 0, []⟩, rfl, ?_, hkA, ?_⟩
      · have hcr : d.crash ns = ⟨cc, cc, [], 0, false, 0⟩ := by
          unfold DS.crash
          rw [HCC.out]
          rfl
        rw [hcr]
        refine ⟨blk_set HB2.out 1 _, ?_, ?_, World.ownsRow_nil _ _ _ _, rfl, fun i hi => by simp at hi, ?_, fun t ht => by simp at ht, fun t ht => by simp at ht, ⟨by simp, hlc, hlc, fun p hp => by simp at hp, fun h => by simp at h⟩⟩
        · exact hkE.own (HK2.out.own HOWNS.out (fun _ _ => id)) (fun b hb => HNEW2.out b hb)
        · exact hkE.own HOWN2.out (fun b hb => by have := HV2.out b hb; omega)
        · intro b hb e
          have h1 := HV2.out b e
          have h2 := own_lt HOWN.out b hb
          omega
      · rintro k (hk | hk | hk | hk | ⟨t, ht, _⟩)
        · exact Nat.le_of_eq hk.symm
        · have := HC.out.blk k hk
          have := HSZ0.out
          omega
        · have := HV2.out k hk
          omega
        · simp [Value.ownBlock] at hk
        · simp at ht
end Go.Proofs.Ytbmmcdnmbdoglaa
