/- The contract of Sync. -/
import Derived.Test.YtbmmcdnmbdoglaaD5
import Derived.Test.YtbmmcdnmbdoglaaK2
import Derived.Deep.RegionLaw
namespace Go.Proofs.Ytbmmcdnmbdoglaa
open Go.RowKit
set_option linter.unusedVariables false

/-- The contents at the last Sync are written anew. -/
theorem syn_turned {w w' : World} {r : Rep} {d : DS} (h : IsDisk w r d) {v : Value} {c : Bytes} (ho : w'.ownsRow 0 5 1 v c.length (b8 c)) (hk : Keep (fun k => r.sv.ownBlock = some k) w w')
    (hv : v.ownBlock = r.sv.ownBlock ∨ ∃ b, v.ownBlock = some b ∧ w.heap.size ≤ b) (hc : c.length ≤ 16777216) :
    Step w r (w'.setCell ⟨r.p, 1, none⟩ v) { r with sv := v } { d with synced := c } := by
  have hpne := h.p_ne
  have hb1 : w'.heap[r.p]? = some (.cells #[r.nv, r.sv, r.pv, .int .i64 d.calls, .bool d.failing, .int .i64 d.left] 59 (0, 0)) := (hk.block r.p (blk_lt h.blk) (fun e => hpne.2.1 _ e rfl)).trans h.blk
  have hk2 : Keep (fun k => k = r.p) w' (w'.setCell ⟨r.p, 1, none⟩ v) := keep_set (Keep.refl _ _) _ _
  have hs1 : ∀ b, r.nv.ownBlock = some b → r.sv.ownBlock ≠ some b := h.sep1
  have hty : ∀ b, r.pv.ownBlock = some b → r.sv.ownBlock ≠ some b := fun b hb hb' => by
    obtain ⟨cur, hc⟩ := own_type h.syn hb'
    obtain ⟨cur', hc'⟩ := own_type h.prt hb
    rw [hc] at hc'
    injection hc' with hc'
    injection hc' with _ h2
    exact absurd h2 (by decide)
  refine ⟨⟨blk_set hb1 1 v, hk2.own (hk.own h.now (fun b hb => hs1 b hb)) (fun b hb => hpne.1 b hb), hk2.own ho (fun b hb => blk_own_ne hb1 ho hb (by decide)), hk2.own (hk.own h.prt (fun b hb => hty b hb)) (fun b hb => hpne.2.2 b hb), h.txl, fun i hi => ?_, ?_, ?_, h.sep3, ⟨h.ok.calls, h.ok.now, hc, h.ok.part, h.ok.left⟩⟩, rfl, ?_, ?_⟩
  · have hm := h.sep2 _ (getD_mem (x := dflA) (by rw [h.txl]; exact hi : i < r.tx.length))
    refine ((h.txt i hi).keep hk (fun b hb => ?_)).keep hk2 (fun b hb => ?_)
    · have := Option.some.inj hb
      rw [← this]; exact hm.2.1
    · have := Option.some.inj hb
      rw [← this]; exact hm.2.2
  · intro b hb e
    rcases hv with hv | ⟨b', hv, hlt⟩
    · exact h.sep1 b hb (hv ▸ e)
    · have : b = b' := Option.some.inj (e.symm.trans hv)
      have := own_lt h.now b hb
      omega
  · intro t ht
    refine ⟨(h.sep2 t ht).1, fun e => ?_, (h.sep2 t ht).2.2⟩
    rcases hv with hv | ⟨b', hv, hlt⟩
    · exact (h.sep2 t ht).2.1 (hv ▸ e)
    · have h1 : t.1.block = b' := Option.some.inj (e.symm.trans hv)
      have := h.txt_lt t ht
      omega
  · exact (hk.mono (fun k h => .inr (.inr (.inl h)))).then hk2 (fun i hi => .inl (.inl hi))
  · rintro k (hk | hk | hk | hk)
    · exact .inl (.inl hk)
    · exact .inl (.inr (.inl hk))
    · rcases hv with hv | ⟨b', hv, hlt⟩
      · exact .inl (.inr (.inr (.inl (hv ▸ hk))))
      · have : k = b' := Option.some.inj (hk.symm.trans hv)
        exact .inr (by omega)
    · exact .inl (.inr (.inr (.inr hk)))
/-- The list of parts is emptied. -/
theorem settled {w : World} {r : Rep} {d : DS} (h : IsDisk w r d) : Step w r (w.setCell ⟨r.p, 2, none⟩ (.slice none 0 0)) { r with pv := .slice none 0 0, tx := [] } { d with parts := [] } := by
  have hpne := h.p_ne
  have hk2 : Keep (fun k => k = r.p) w (w.setCell ⟨r.p, 2, none⟩ (.slice none 0 0)) := keep_set (Keep.refl _ _) _ _
  refine ⟨⟨blk_set h.blk 2 _, hk2.own h.now (fun b hb => hpne.1 b hb), hk2.own h.syn (fun b hb => hpne.2.1 b hb), World.ownsRow_nil _ _ _ _, rfl, fun i hi => by simp at hi, h.sep1, fun t ht => by simp at ht, fun t ht => by simp at ht, ⟨h.ok.calls, h.ok.now, h.ok.syn, fun p hp => by simp at hp, h.ok.left⟩⟩, rfl, hk2.mono (fun k hk => .inl hk), ?_⟩
  rintro k (hk | hk | hk | hk | ⟨t, ht, _⟩)
  · exact .inl (.inl hk)
  · exact .inl (.inr (.inl hk))
  · exact .inl (.inr (.inr (.inl hk)))
  · simp [Value.ownBlock] at hk
  · simp at ht

set_option maxHeartbeats 4000000 in
theorem sync_disk {w : World} {r : Rep} {d : DS} (h : IsDisk w r d) (ho : d.off = false) (hc : d.calls ≤ 1000000000000) :
    Calls Try.prog 23 #[.pointer (some ⟨r.p, 0, none⟩)] w fun e w' => e = .returned (.int .i64 0) ∧ ∃ r', Step w r w' r' d.sync := by
  have C1 := Lib.hid (call_on h ho hc)
  have HD := Lib.hid h
  clear ho hc h
  go_enter Try.func23, Try.ntmps23
  go_wp2_with fail
  refine C1.out.mono ?_
  rintro e w1 ⟨rfl, hd1, hk1⟩
  have HD1 := Lib.hid hd1
  have HK1 := Lib.hid hk1
  clear hk1
  obtain ⟨A0, c0, A1, c1, A2, c2, e0, e1, e2, h0, h1, h2, h3, h4, h5, f0, f1, f2, f3, f4, f5⟩ := hd1.cells
  have hnow := hd1.now
  obtain ⟨A, c, en, hnn, hcn⟩ := own_none hnow
  rw [e0] at en
  cases en
  have hsyn := hd1.syn
  rw [e1] at hsyn
  have hown := own_zero_len hsyn
  have HCN := Lib.hid hcn
  have HNN := Lib.hid hnn
  have HOWN := Lib.hid hown
  have hl : d.called.now.length ≤ 16777216 := hd1.ok.now
  have E1 := Lib.hid e1
  have HP := Lib.hid hd1.p_ne
  have hne : some r.p ≠ (Value.slice A1 0 c1).ownBlock := fun e => HP.out.2.1 r.p (by rw [E1.out, own_len A1 _ 0]; exact e.symm) rfl
  have hplt : r.p < w1.heap.size := blk_lt hd1.blk
  clear e0 e1 e2 h2 h3 h4 h5 f0 f2 f3 f4 f5 hnow hcn hsyn hown hnn hd1
  go_wp2_with fail
  go_region_law (refine step_append_src rfl 43 5 (.int .u8 0) 1 0 Try.bytes _ _ rfl (.slice A1 0 c1) 0 [] rfl (by exact HOWN.out) _ d.called.now.length _ (b8 d.called.now) rfl HNN.out (by exact HCN.out) (b8_one _) (by omega) (by omega) (by omega) ?_; intro A' c' w2 hown2 hgrow hat; have HG2 := Lib.hid hgrow; have HAT := Lib.hid hat; obtain ⟨hc2, hf2⟩ := grown_far hgrow h1 f1 hplt hne; have HO2 := Lib.hid hown2; clear hgrow hat hown2)
  all_goals clear hc2 hf2 h0 h1 f1 hne
  all_goals (
    have hst := syn_turned (v := .slice A' d.called.now.length c') (c := d.called.now) HD1.out (by have := HO2.out; rw [Nat.zero_add, List.nil_append] at this; exact this) ((Keep.refl (fun k => r.sv.ownBlock = some k) w1).grown (grown_drew HG2.out) (fun k hk => .inl (by rw [E1.out, own_len A1 _ 0]; exact hk))) (by
      have := HAT.out
      rw [Nat.zero_add] at this
      rw [E1.out, own_len A1 _ 0]
      rcases this with h | h
      · exact .inl h
      · exact .inr ⟨_, h, Nat.le_refl _⟩) hl
    have hst2 : Step w r _ _ _ := (step_of_keep HD1.out HK1.out).trans hst
    have HST := Lib.hid hst2
    clear hst hst2
    obtain ⟨B0, b0, B1, b1, B2, b2, g0, g1, g2, _, _, k2, _, _, _, _, _, q2, _, _, _⟩ := HST.out.disk.cells
    clear g0 g1 g2
    have hset := settle_disk _ r.p _ k2 q2
    have HSET := Lib.hid hset
    clear hset k2 q2
    go_wp2_with fail
    refine HSET.out.mono ?_
    rintro e w4 ⟨rfl, rfl⟩
    go_wp2_with fail
    go_ret
    exact ⟨rfl, _, HST.out.trans (settled HST.out.disk)⟩)
end Go.Proofs.Ytbmmcdnmbdoglaa
