/- The reference model of a disk: Write. -/
import Derived.Test.YthhcnfbolhoeaaaR2
import Derived.Deep.RegionLaw
namespace Go.Proofs.Ythhcnfbolhoeaaa
open Go.RowKit
set_option linter.unusedVariables false

theorem Try.part : (Try.prog.info? 73).map (fun i => (i.zero, i.size, i.bytes)) = some (some (.agg #[.int .i64 0, .string ⟨#[]⟩]), 2, 24) := by kernel_rfl

theorem bs_extract (s : ByteArray) (k q : Nat) : bs (s.extract k (k + q)) = ((bs s).drop k).take q := by
  simp [bs, ByteArray.data_extract, Array.toList_extract, List.extract_eq_take_drop]

theorem ref_bad (w : World) (p : Nat) (off : Int) (s : ByteArray) (hoff : -9223372036854775808 ≤ off ∧ off ≤ 9223372036854775807) (hs : s.size ≤ 140737488351232) (hb : fitsAt off s.size = false) :
    Calls Try.prog 32 #[.pointer (some ⟨p, 0, none⟩), .int .i64 off, .string s] w fun e w' => e = .returned (.int .i64 1) ∧ w = w' := by
  have hb' : off < 0 ∨ 16777216 < off ∨ 16777216 < off + (s.size : Int) := by
    simp only [fitsAt, Bool.and_eq_false_iff, decide_eq_false_iff_not] at hb
    omega
  clear hb
  by_cases h1 : off < 0
  · have d1 : decide (off < 0) = true := by simpa using h1
    clear hb'
    go_enter Try.func32, Try.ntmps32
    go_wp2_with fail
    go_ret
    exact ⟨rfl, rfl⟩
  · have d1 : decide (off < 0) = false := by simpa using h1
    by_cases h2 : 16777216 < off
    · have d2 : decide (16777216 < off) = true := by simpa using h2
      clear hb'
      go_enter Try.func32, Try.ntmps32
      go_wp2_with fail
      go_ret
      exact ⟨rfl, rfl⟩
    · have d2 : decide (16777216 < off) = false := by simpa using h2
      have d3 : decide (16777216 < off + (s.size : Int)) = true := by simp; omega
      clear hb'
      go_enter Try.func32, Try.ntmps32
      go_wp2_with fail
      go_ret
      exact ⟨rfl, rfl⟩
theorem ref_off {w : World} {r : RRep} {d : DS} (h : IsRef w r d) (ho : d.off = true) (off : Nat) (s : ByteArray) (hf : off + s.size ≤ 16777216) :
    Calls Try.prog 32 #[.pointer (some ⟨r.p, 0, none⟩), .int .i64 (off : Int), .string s] w fun e w' => e = .returned (.int .i64 70) ∧ w = w' := by
  have C1 := Lib.hid (off_ref h ho)
  clear ho h
  have hg1 : decide (16777216 < off) = false := by simp; omega
  have hg2 : decide (16777216 < off + s.size) = false := by simp; omega
  have hg1' : decide ((16777216 : Int) < off) = false := by simp; omega
  have hg2' : decide ((16777216 : Int) < off + s.size) = false := by simp; omega
  have hz : decide ((off:Int) < 0) = false := by simp
  go_enter Try.func32, Try.ntmps32
  go_wp2_with fail
  refine C1.out.mono ?_
  rintro e w1 ⟨rfl, rfl⟩
  go_wp2_with fail
  go_ret
  exact ⟨rfl, rfl⟩

theorem grown_one {w w1 : World} {o : Obj} {row : Option Nat} (hg : (w.alloc o).drew.grownBy w1 row) {p i : Nat} {v : Value} (h : w.cell? ⟨p, i, none⟩ = some v) (f : w.frozen? ⟨p, i, none⟩ = false) (hp : p < w.heap.size) (hne : some p ≠ row) :
    w1.cell? ⟨p, i, none⟩ = some v ∧ w1.frozen? ⟨p, i, none⟩ = false := by
  have hb : w1.heap[p]? = w.heap[p]? := (hg.block p (by simp; omega) hne).trans (Below.heap_alloc w o p hp)
  exact ⟨(World.cell?_of_block (a := ⟨p, i, none⟩) hb).trans h, (World.frozen?_of_block (a := ⟨p, i, none⟩) hb).trans f⟩
/-- The contents are written anew. -/
theorem ref_now {w : World} {r : RRep} {d : DS} (h : IsRef w r d) (c : Bytes) (hc : c.length ≤ 16777216) : RStep w r (w.setCell ⟨r.p, 0, none⟩ (.string (sb c))) r { d with now := c } := by
  have hb := h.blk
  unfold RRep.obj at hb
  exact h.turned (keep_set (Keep.refl _ w) _ _) rfl (blk_set hb 0 (.string (sb c))) rfl rfl h.left h.low ⟨h.ok.calls, hc, h.ok.syn, h.ok.part, h.ok.left⟩
/-- One part more. -/
theorem ref_part {w w1 : World} {r : RRep} {d : DS} (h : IsRef w r d) (off : Nat) (t : Bytes) (g cap : Nat) (ht : t ≠ []) (hoff : off + t.length ≤ 16777216)
    (ho : w1.ownsRow 0 73 2 (.slice (some ⟨g, 0, none⟩) (d.parts.length + 1) cap) (d.parts.length + 1) (prs d.parts ++ [.int .i64 (off : Int), .string (sb t)]))
    (hk : Keep (fun k => r.pv.ownBlock = some k) w w1) (hat : r.pv.ownBlock = some g ∨ w.heap.size ≤ g) :
    RStep w r (w1.setCell ⟨r.p, 2, none⟩ (.slice (some ⟨g, 0, none⟩) (d.parts.length + 1) cap)) { r with pv := .slice (some ⟨g, 0, none⟩) (d.parts.length + 1) cap } { d with parts := d.parts ++ [(off, t)] } := by
  have hb := h.blk
  unfold RRep.obj at hb
  have hpne := h.p_ne
  have hb1 : w1.heap[r.p]? = _ := (hk.block r.p (blk_lt hb) (fun e => hpne _ e rfl)).trans hb
  have hk2 : Keep (fun k => k = r.p) w1 (w1.setCell ⟨r.p, 2, none⟩ (.slice (some ⟨g, 0, none⟩) (d.parts.length + 1) cap)) := keep_set (Keep.refl _ _) _ _
  refine ⟨⟨blk_set hb1 2 _, ?_, h.left, h.low, ⟨h.ok.calls, h.ok.now, h.ok.syn, fun p hp => ?_, h.ok.left⟩⟩, rfl, (hk.mono (fun k h => .inr h)).then hk2 (fun i hi => .inl (.inl hi)), ?_⟩
  · have := hk2.own ho (fun b hb => blk_own_ne hb1 ho hb (by decide))
    rw [← prs_append d.parts (off, t)] at this
    simpa using this
  · rcases List.mem_append.1 hp with hp | hp
    · exact h.ok.part p hp
    · obtain rfl : p = (off, t) := by simpa using hp
      exact ⟨hoff, ht⟩
  · rintro k (hk | hk)
    · exact .inl (.inl hk)
    · have hg : g = k := by simpa [Value.ownBlock] using hk
      subst hg
      rcases hat with h1 | h1
      · exact .inl (.inr h1)
      · exact .inr h1

set_option maxHeartbeats 4000000 in
set_option maxRecDepth 100000 in
theorem ref_write {w : World} {r : RRep} {d : DS} (h : IsRef w r d) (ho : d.off = false) (hc : d.calls ≤ 1000000000000) (off : Nat) (s : ByteArray) (hf : off + s.size ≤ 16777216) (hn : d.parts.length ≤ 500000000) :
    Calls Try.prog 32 #[.pointer (some ⟨r.p, 0, none⟩), .int .i64 (off : Int), .string s] w fun e w' => e = .returned (.int .i64 0) ∧ ∃ r', RStep w r w' r' (d.write off (bs s)) := by
  have C1 := Lib.hid (on_ref h ho hc)
  clear ho hc h
  have hg1 : decide (16777216 < off) = false := by simp; omega
  have hg2 : decide (16777216 < off + s.size) = false := by simp; omega
  have hg1' : decide ((16777216 : Int) < off) = false := by simp; omega
  have hg2' : decide ((16777216 : Int) < off + s.size) = false := by simp; omega
  have hz : decide ((off:Int) < 0) = false := by simp
  go_enter Try.func32, Try.ntmps32
  go_wp2_with fail
  refine C1.out.mono ?_
  rintro e w1 ⟨rfl, hs1⟩
  obtain ⟨A, c, e2, h0, h1, h2, h3, h4, h5, f0, f1, f2, f3, f4, f5⟩ := hs1.disk.cells
  have HS1 := Lib.hid hs1
  have hnl : (sb d.now).size ≤ 16777216 := by rw [sb_size]; exact hs1.disk.ok.now
  have HPUT := Lib.hid (put_ref w1 (sb d.now) s off hnl hf)
  clear hs1 e2 h1 h2 h3 h4 h5 f1 f2 f3 f4 f5 hg1 hg2 hg1' hg2' hz
  go_wp2_with fail
  refine HPUT.out.mono ?_
  rintro e w2 ⟨rfl, hk2⟩
  have h0' := (hk2.cell (World.block_lt_of_cell? _ _ h0) id).trans h0
  have f0' := (keep_frozen hk2 (a := ⟨r.p, 0, none⟩) (World.block_lt_of_cell? _ _ h0) id).trans f0
  have hst : RStep w r _ _ { d.called with now := putL d.now off (bs s) } := (HS1.out.quiet hk2).trans (ref_now (HS1.out.disk.keep hk2 (fun _ _ => id)) (putL d.now off (bs s)) (by rw [putL_length, bs_length]; have := HS1.out.disk.ok.now; have h9 : d.now.length ≤ 16777216 := this; omega))
  have HST := Lib.hid hst
  rw [bs_sb]
  clear hk2 hst h0 f0
  go_wp2_with fail
  go_loopw [8] (fun u wr => ∃ (k : Nat) (ps : List (Nat × Bytes)) (r' : RRep), u = .int .i64 (k : Int) ∧ k ≤ s.size ∧ Hid (ps ++ pieces (off + k) ((bs s).drop k) = pieces off (bs s)) ∧ Hid (RStep w r wr r' { d.called with now := putL d.now off (bs s), parts := d.parts ++ ps })) (fun u _ => s.size - (intOf u).toNat)
  case atStart =>
    exact ⟨0, [], _, rfl, Nat.zero_le _, Lib.hid (List.nil_append _), Lib.hid (by rw [List.append_nil]; exact HST.out)⟩
  case round =>
    obtain ⟨k, ps, r', rfl, hk, HP, HS⟩ := hrel
    obtain ⟨wo, rfl⟩ : ∃ wo : World, wo = wr := ⟨_, rfl⟩
    clear h0' f0' HPUT
    by_cases hlt : k < s.size
    · obtain ⟨q, hq⟩ : ∃ q : Nat, min (64 - (off + k) % 64) (s.size - k) = q := ⟨_, rfl⟩
      have hq1 : 1 ≤ q := by omega
      have hq2 : k + q ≤ s.size := by omega
      have hmin : ∀ w, (Builtin.min_ #[3, 3] 3 #[.int .i64 (64 - ((off : Int) + k) % 64), .int .i64 ((s.size : Int) - k)]).run Try.prog w = .ok (.int .i64 (q : Int)) w := by
        intro w
        rw [run_min_int2]
        congr 2
        split <;> omega
      obtain ⟨A2, c2, e2, _, _, h2, _, _, _, _, _, f2, _, _, _⟩ := HS.out.disk.cells
      rw [HS.out.p] at h2 f2
      obtain ⟨i0, hi, hz0, hz1, hz2⟩ := info_parts Try.part
      have hprt := HS.out.disk.prt
      rw [e2] at hprt
      have hne : some r.p ≠ (Value.slice A2 (d.parts ++ ps).length c2).ownBlock := by
        rw [← e2]
        intro e
        exact HS.out.disk.p_ne _ e.symm HS.out.p.symm
      have hplt : r.p < wo.heap.size := World.block_lt_of_cell? _ _ h2
      have hnl2 : (d.parts ++ ps).length ≤ 1000000000 := by
        have h1 : (ps ++ pieces (off + k) ((bs s).drop k)).length ≤ s.size := by
          rw [HP.out]
          exact Nat.le_trans (pieces_length _ _ _ (Nat.le_refl _)) (by rw [bs_length]; exact Nat.le_refl _)
        simp only [List.length_append] at h1 ⊢
        omega
      have hk1 : (0 : Int) ≤ ((off : Int) + k) % 64 := by omega
      have hk2 : ((off : Int) + k) % 64 < 64 := by omega
      obtain ⟨nl, hnl3⟩ : ∃ nl, (d.parts ++ ps).length = nl := ⟨_, rfl⟩
      have h2' : wo.cell? ⟨r.p, 2, none⟩ = some (.slice A2 nl c2) := by rw [← hnl3]; exact h2
      have hprt' : wo.ownsRow 0 73 2 (.slice A2 nl c2) nl (prs (d.parts ++ ps)) := by rw [← hnl3]; exact hprt
      have hne' : some r.p ≠ (Value.slice A2 nl c2).ownBlock := by rw [← hnl3]; exact hne
      have hnl4 : nl ≤ 1000000000 := by rw [← hnl3]; exact hnl2
      have HNL := Lib.hid hnl3
      clear h2 hprt hne hnl3 hnl2
      have HPRT := Lib.hid hprt'
      have HI := Lib.hid hi
      have HZ0 := Lib.hid hz0
      have HZ1 := Lib.hid hz1
      have HZ2 := Lib.hid hz2
      have HNE := Lib.hid hne'
      have HQ := Lib.hid hq
      have HE2 := Lib.hid e2
      clear hprt' hi hz0 hz1 hz2 hne' hq e2
      go_wp2_with fail
      obtain ⟨x, hx⟩ : ∃ x, s.extract k (k + q) = x := ⟨_, rfl⟩
      clear hmin hk1 hk2
      have hks : k + q ≤ s.size := hq2
      have hsum : IntKind.i64.wrap ((k : Int) + q) = ((k + q : Nat) : Int) := by rw [IntKind.wrap_i64]; omega
      have hsum2 : IntKind.i64.wrap ((off : Int) + k) = (off : Int) + k := by rw [IntKind.wrap_i64]; omega
      have HX := Lib.hid hx
      clear hx
      have hA : (0 : Int) ≤ (k : Int) + q := by omega
      have hB : (k : Int) + q ≤ s.size := by omega
      have hC : (k : Int) ≤ (k : Int) + q := by omega
      have hD : ((k : Int) + q).toNat = k + q := by omega
      go_region_law (refine step_append_lies _ rfl _ _ 64 rfl 0 73 i0 _ 2 24 Try.underlying64 HI.out HZ0.out HZ1.out HZ2.out rfl (by decide) (.slice A2 nl c2) nl (prs (d.parts ++ ps)) rfl (by exact HPRT.out.alloc _) ⟨wo.heap.size, 0, none⟩ 1 1 [.int .i64 ((off : Int) + k), .string (s.extract k (k + q))] rfl rfl (by exact World.news_of_block (cs := #[.int .i64 ((off : Int) + k), .string (s.extract k (k + q))]) (t := 73) (fr := (0, 0)) (by exact heap_alloc_new wo _)) (by simp [Value.oneCell']) (by omega) (by unfold maxLen; omega) (by omega) (by omega) _ rfl ?_; intro g cap w3 hown3 hgrow hat hlt3; have HOW := Lib.hid hown3; have HGW := Lib.hid hgrow; have HAT := Lib.hid hat; obtain ⟨hc3, hf3⟩ := grown_one hgrow h2' f2 hplt HNE.out; clear hown3 hgrow hat)
      all_goals clear hc3 hf3 h2' f2
      all_goals (
        have hst := ref_part HS.out.disk (off + k) (bs (s.extract k (k + q))) g cap (by
            intro e
            have := congrArg List.length e
            rw [bs_length, ByteArray.size_extract, List.length_nil] at this
            omega) (by rw [bs_length, ByteArray.size_extract]; omega)
          (by
            have := HOW.out
            rw [← HNL.out] at this
            rw [Int.natCast_add, sb_bs]
            exact this)
          (by
            rw [HE2.out, HNL.out]
            exact Keep.grown (Keep.mono ((Keep.refl (fun _ => False) wo).alloc' _ |>.trans (keep_draw _ _)) (fun _ => False.elim)) HGW.out (fun j hj => .inl hj))
          (by
            rw [HE2.out, HNL.out]
            rcases HAT.out with h | h
            · exact .inl h
            · exact .inr (by rw [h]; exact ((Keep.refl (fun _ => False) wo).alloc' _ |>.trans (keep_draw _ _)).size))
        rw [HS.out.p] at hst
        have hst2 : RStep w r _ _ _ := HS.out.trans hst
        rw [HNL.out] at hst2
        have hpc := pieces_cons (off + k) ((bs s).drop k) (by rw [List.length_drop, bs_length]; omega)
        rw [List.length_drop, bs_length, HQ.out, List.drop_drop] at hpc
        have hpp : (ps ++ [(off + k, bs (s.extract k (k + q)))]) ++ pieces (off + (k + q)) ((bs s).drop (k + q)) = pieces off (bs s) := by
          rw [List.append_assoc, List.singleton_append, bs_extract, ← Nat.add_assoc off k q, ← hpc]
          exact HP.out
        have HPP := Lib.hid hpp
        have HST2 := Lib.hid hst2
        clear hst hst2 hpc hpp
        go_wp2_with fail
        go_roundw
        case rel =>
          first
            | exact ⟨k + q, ps ++ [(off + k, bs (s.extract k (k + q)))], _, by go_num, by omega, HPP, Lib.hid (by rw [← List.append_assoc]; exact HST2.out)⟩
            | (repeat apply Exists.intro
               refine ⟨?rel2, rfl⟩
               exact ⟨k + q, ps ++ [(off + k, bs (s.extract k (k + q)))], _, by go_num, by omega, HPP, Lib.hid (by rw [← List.append_assoc]; exact HST2.out)⟩)
        case measure => simp [intOf]; omega)
    · obtain rfl : k = s.size := by omega
      have hps := HP.out
      rw [List.drop_eq_nil_of_le (by rw [bs_length]; exact Nat.le_refl _), pieces_nil, List.append_nil] at hps
      go_wp2_with fail
      go_ret
      exact ⟨rfl, r', by rw [hps] at HS; exact HS.out⟩
end Go.Proofs.Ythhcnfbolhoeaaa
