/- The contract of Write. -/
import Derived.Test.YtbmmcdnmbdoglaaD4
import Derived.Test.YtbmmcdnmbdoglaaD5
import Derived.Test.YtbmmcdnmbdoglaaK2
import Derived.Deep.RegionLaw
import Derived.IntWalk
namespace Go.Proofs.Ytbmmcdnmbdoglaa
open Go.RowKit
set_option linter.unusedVariables false

def strSize : Value → Nat
  | .string v => v.size
  | _ => 0
theorem u_bytes : Try.prog.underlying 43 = some (.slice 5) := Try.bytes.ht
theorem run_conv (w : World) (s : ByteArray) : (convert 9 43 (.string s)).run Try.prog w = .ok (.slice (some ⟨w.heap.size, 0, none⟩) s.size (grownCap w s.size 0 5)) (Lib.bytesWorld w 5 s) :=
  Lib.run_convert_string_bytes w 9 43 5 s Try.underlying9 u_bytes Try.underlying5
theorem own_conv_ne {w : World} {base n size : Nat} {e : TypeId} {v : Value} {xs : List Value} (h : w.ownsRow base e size v n xs) : v.ownBlock ≠ some w.heap.size := fun e => by
  have := own_lt h _ e
  omega

set_option maxHeartbeats 4000000 in
set_option maxRecDepth 100000 in
theorem write_disk {w : World} {r : Rep} {d : DS} (h : IsDisk w r d) (ho : d.off = false) (hc : d.calls ≤ 1000000000000) (off : Nat) (s : ByteArray) (hf : off + s.size ≤ 16777216) (hn : d.parts.length ≤ 500000000) :
    Calls Try.prog 22 #[.pointer (some ⟨r.p, 0, none⟩), .int .i64 (off : Int), .string s] w fun e w' => e = .returned (.int .i64 0) ∧ ∃ r', Step w r w' r' (d.write off (bs s)) := by
  have C1 := Lib.hid (call_on h ho hc)
  have HD := Lib.hid h
  clear ho hc h
  have hg1 : decide ((16777216:Int) < (off:Int)) = false := by simp; omega
  have hg2 : decide ((16777216 : Int) - off < s.size) = false := by simp; omega
  have hz : decide ((off:Int) < 0) = false := by simp
  go_enter Try.func22, Try.ntmps22
  go_wp2_with fail
  refine C1.out.mono ?_
  rintro e w1 ⟨rfl, hd1, hk1⟩
  have HD1 := Lib.hid hd1
  have HK1 := Lib.hid hk1
  clear hk1
  obtain ⟨A0, c0, A1, c1, A2, c2, e0, e1, e2, h0, h1, h2, h3, h4, h5, f0, f1, f2, f3, f4, f5⟩ := hd1.cells
  have hdb : IsDisk (Lib.bytesWorld w1 5 s) r d.called := hd1.keep (keep_conv (fun _ => False) w1 5 s) (fun _ _ => id)
  have hs := cells_conv w1 5 s (by omega)
  have hput := put_any (Lib.bytesWorld w1 5 s) r.nv d.called.now off (some ⟨w1.heap.size, 0, none⟩) (grownCap w1 s.size 0 5) (bs s) hdb.now (by rw [bs_length]; exact hs) (fun b hb => by
    have := Option.some.inj hb
    rw [← this]
    exact own_conv_ne hd1.now) (by have := hdb.ok.now; exact this) (by rw [bs_length]; exact hf)
  rw [e0, bs_length] at hput
  have HPUT := Lib.hid hput
  have HDB := Lib.hid hdb
  have E0 := Lib.hid e0
  have hconv := run_conv w1 s
  clear hput hdb hs hd1 h1 h2 h3 h4 h5 f1 f2 f3 f4 f5 e0 e1 e2
  go_wp2_with fail
  refine HPUT.out.mono ?_
  rintro e w2 ⟨v', rfl, hown2, hk2, hv2⟩
  clear hconv
  rw [← E0.out] at hk2 hv2
  have hb2 : w2.heap[r.p]? = (Lib.bytesWorld w1 5 s).heap[r.p]? := hk2.block r.p (blk_lt HDB.out.blk) (fun e => HDB.out.p_ne.1 _ e rfl)
  have hfr : w2.frozen? ⟨r.p, 0, none⟩ = false := (World.frozen?_of_block (a := ⟨r.p, 0, none⟩) hb2).trans (blk_free HDB.out.blk 0)
  have hcell : w2.cell? ⟨r.p, 0, none⟩ = some r.nv := by rw [blk_cell (hb2.trans HDB.out.blk)]; rfl
  have hst := now_turned HDB.out hown2 hk2 hv2 (by rw [putL_length, bs_length]; have := HDB.out.ok.now; omega)
  have hst2 : Step w r (w2.setCell ⟨r.p, 0, none⟩ v') { r with nv := v' } { d.called with now := putL d.now off (bs s) } :=
    (step_of_keep HD1.out HK1.out).trans ((Step.after (keep_conv _ _ _ _) hst))
  have HST := Lib.hid hst2
  clear hst hst2 hown2 hk2 hv2 hb2 h0 f0
  obtain ⟨A3, c3, rfl⟩ : ∃ A c, v' = .slice A (putL d.now off (bs s)).length c := own_slice HST.out.disk.now
  go_wp2_with fail
  go_loopw [1, 2] (fun o u wr => ∃ (o' : Nat) (v : ByteArray) (ps : List (Nat × Bytes)) (r' : Rep), o = .int .i64 (o' : Int) ∧ u = .string v ∧ o' + v.size ≤ 16777216 ∧ Hid (ps ++ pieces o' (bs v) = pieces off (bs s)) ∧ Hid (Step w r wr r' { d.called with now := putL d.now off (bs s), parts := d.parts ++ ps })) (fun _ u _ => strSize u)
  case atStart =>
    exact ⟨off, s, [], _, rfl, rfl, hf, Lib.hid (List.nil_append _), Lib.hid (by rw [List.append_nil]; exact HST.out)⟩
  case round =>
    obtain ⟨o', v, ps, r', rfl, rfl, hb, HP, HS⟩ := hrel
    clear hfr hcell HPUT HDB
    by_cases hlt : 0 < v.size
    · obtain ⟨q, hq⟩ : ∃ q : Nat, min (64 - o' % 64) v.size = q := ⟨_, rfl⟩
      have hq1 : 1 ≤ q := by omega
      have hq2 : q ≤ v.size := by omega
      have hmin : ∀ w, (Builtin.min_ #[3, 3] 3 #[.int .i64 (64 - (o' : Int) % 64), .int .i64 (v.size : Int)]).run Try.prog w = .ok (.int .i64 (q : Int)) w := by
        intro w
        rw [run_min_int2]
        congr 2
        split <;> omega
      obtain ⟨x, hx⟩ : ∃ x, v.extract 0 q = x := ⟨_, rfl⟩
      have hxs : x.size = q := by rw [← hx, ByteArray.size_extract]; omega
      have hxt : bs x = (bs v).take q := by rw [← hx]; exact bs_take v q
      obtain ⟨gc, hgc⟩ : ∃ gc : World → Nat, ∀ w, grownCap w x.size 0 5 = gc w := ⟨_, fun _ => rfl⟩
      obtain ⟨bw, hbw⟩ : ∃ bw : World → World, ∀ w, Lib.bytesWorld w 5 x = bw w := ⟨_, fun _ => rfl⟩
      have hcv : ∀ w, (convert 9 43 (.string (v.extract 0 q))).run Try.prog w = .ok (.slice (some ⟨w.heap.size, 0, none⟩) q (gc w)) (bw w) := by
        intro w
        rw [hx, run_conv, hbw, hgc, hxs]
      have hpc := pieces_cons o' (bs v) (by rw [bs_length]; omega)
      rw [bs_length, hq, ← hxt] at hpc
      have hd0 : IsDisk (bw wr.drew) r' _ := HS.out.disk.keep (by rw [← hbw]; exact (keep_draw (fun _ => False) wr).trans (keep_conv _ _ _ _)) (fun _ _ => id)
      have hnl : (d.parts ++ ps).length ≤ 1000000000 := by
        have h1 : (ps ++ pieces o' (bs v)).length ≤ s.size := by
          rw [HP.out]
          exact Nat.le_trans (pieces_length _ _ _ (Nat.le_refl _)) (by rw [bs_length]; exact Nat.le_refl _)
        simp only [List.length_append] at h1 ⊢
        omega
      have hlt' : ∀ k, r'.foot k → k < wr.heap.size := HS.out.disk.foot_lt
      have hadd := add_disk hd0 o' (bs x) ⟨wr.heap.size, 0, none⟩ (gc wr.drew) hnl (by rw [bs_length, ← hbw]; exact cells_conv wr.drew 5 x (by omega)) (by
        intro e
        have := congrArg List.length e
        rw [bs_length, hxs] at this
        simp at this
        omega) (by rw [bs_length, hxs]; omega) ⟨fun e => Nat.lt_irrefl _ (hlt' _ (.inr (.inl e))), fun e => Nat.lt_irrefl _ (hlt' _ (.inr (.inr (.inl e)))), fun e => Nat.lt_irrefl _ (hlt' _ (.inl e))⟩ (fun e => Nat.lt_irrefl _ (hlt' _ (.inr (.inr (.inr (.inl e))))))
      rw [HS.out.p, bs_length, hxs] at hadd
      have HADD := Lib.hid hadd
      have HQ := Lib.hid hq
      have HX := Lib.hid hx
      have HXS := Lib.hid hxs
      have HXT := Lib.hid hxt
      have HPC := Lib.hid hpc
      have HGC := Lib.hid hgc
      have HBW := Lib.hid hbw
      have HLT := Lib.hid hlt'
      have hov : (o' : Int) % 64 < 64 := by omega
      have hov2 : 0 ≤ (o' : Int) % 64 := by omega
      clear hadd hq hx hxs hxt hpc hgc hbw hd0 hnl hlt'
      go_wp2_with fail
      clear hmin hov hov2
      go_region_with (go_at_call 36; refine HADD.out.mono ?_; rintro e w3 ⟨rfl, pv', hd3, hk3, hv3⟩)
      have hx3 : Step w r w3 _ _ := HS.out.trans (add_step HS.out.disk o' (bs x) ⟨wr.heap.size, 0, none⟩ (gc wr.drew) (Nat.le_refl _) (by rw [← HBW.out]; exact (keep_draw _ wr).trans (keep_conv _ _ _ _)) (by rw [← HS.out.p] at hd3; exact hd3) (by rw [← HS.out.p] at hk3; exact hk3) hv3)
      have HX3 := Lib.hid hx3
      clear hx3 hd3 hk3 hv3 hcv
      have hsum : IntKind.i64.wrap ((o' : Int) + (q : Int)) = ((o' + q : Nat) : Int) := by rw [IntKind.wrap_i64]; omega
      go_wp2_with fail
      go_region
      all_goals (
        go_roundw
        case rel =>
          repeat apply Exists.intro
          refine ⟨?rel2, rfl⟩
          refine ⟨o' + q, v.extract q v.size, ps ++ [(o', bs x)], _, by go_num, rfl, ?_, Lib.hid ?_, Lib.hid (by rw [← List.append_assoc]; exact HX3.out.quiet (keep_draw _ w3))⟩
          · rw [ByteArray.size_extract]; omega
          · rw [List.append_assoc, List.singleton_append, bs_drop, ← HPC.out]; exact HP.out
        case measure =>
          show (v.extract q v.size).size < v.size
          rw [ByteArray.size_extract]; omega)
    · go_wp2_with fail
      go_ret
      have hv : bs v = [] := List.eq_nil_of_length_eq_zero (by rw [bs_length]; omega)
      have hps := HP.out
      rw [hv, pieces_nil, List.append_nil] at hps
      exact ⟨rfl, r', by rw [hps] at HS; exact HS.out⟩
end Go.Proofs.Ytbmmcdnmbdoglaa
