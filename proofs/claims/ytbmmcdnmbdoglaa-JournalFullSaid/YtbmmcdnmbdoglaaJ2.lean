/- The iterator over the records, and its contract. -/
import Derived.RangeFuncFrom
import Derived.RangeFuncBox
import Derived.RangeFuncLeaves
import Derived.RangeFuncCalls
import Derived.OwnWalkIn
import Derived.TacticsInMore
import Derived.LoopNIn
import Derived.LoopIn
import Derived.Test.YtbmmcdnmbdoglaaJ1
namespace Go.Proofs.Ytbmmcdnmbdoglaa
open Go.RowKit
set_option linter.unusedVariables false
attribute [local go_sem] Oper.semAt_some

/-- What the iterator hands on: the records from pos to stop, with true; where the form is not right, one more with false. -/
def visF : Nat → Bytes → Nat → Nat → List (Bytes × Bool)
  | 0, _, _, _ => []
  | f + 1, c, pos, stop => if pos < stop then
      if stop < pos + 4 + natL (readL c (pos : Int) 4) 4 then [([], false)]
      else (readL c ((pos + 4 : Nat) : Int) ((natL (readL c (pos : Int) 4) 4 : Nat) : Int), true) :: visF f c (pos + 4 + natL (readL c (pos : Int) 4) 4) stop
    else []
theorem visF_stop (f : Nat) (c : Bytes) (pos stop : Nat) (h : ¬ pos < stop) : visF f c pos stop = [] := by
  cases f <;> simp [visF, h]
theorem recsF_vis : ∀ (f : Nat) (c : Bytes) (pos stop : Nat), stop ≤ pos + f → (∃ l, recsF f c pos stop = some l ∧ visF f c pos stop = l.map (·, true)) ∨ (recsF f c pos stop = none ∧ ∃ l : List Bytes, visF f c pos stop = l.map (·, true) ++ [([], false)])
  | 0, c, pos, stop, h => .inl ⟨[], by rw [recsF_stop _ _ _ _ (by omega)], rfl⟩
  | f + 1, c, pos, stop, h => by
    unfold recsF visF
    by_cases hp : pos < stop
    · rw [if_pos hp, if_pos hp]
      by_cases hs : stop < pos + 4 + natL (readL c (pos : Int) 4) 4
      · rw [if_pos hs, if_pos hs]
        exact .inr ⟨rfl, [], rfl⟩
      · rw [if_neg hs, if_neg hs]
        rcases recsF_vis f c (pos + 4 + natL (readL c (pos : Int) 4) 4) stop (by omega) with ⟨l, h1, h2⟩ | ⟨h1, l, h2⟩
        · exact .inl ⟨_ :: l, by rw [h1]; rfl, by rw [h2]; rfl⟩
        · exact .inr ⟨by rw [h1]; rfl, _ :: l, by rw [h2]; rfl⟩
    · rw [if_neg hp, if_neg hp]
      exact .inl ⟨[], rfl, rfl⟩
/-- No record is longer than a disk. -/
def clip (x : Bytes) : Bytes := x.take 16777216
theorem clip_len (x : Bytes) : (clip x).length ≤ 16777216 := List.length_take_le _ _
theorem clip_id {x : Bytes} (h : x.length ≤ 16777216) : clip x = x := List.take_of_length_le h
theorem readL_le (c : Bytes) (o n : Int) : (readL c o n).length ≤ c.length := by
  unfold readL
  split
  · simp
  · simp; omega
theorem sb_nil : sb [] = ⟨#[]⟩ := rfl
theorem take_one_more {α : Type} (l : List α) (a : α) (r : List α) : l ++ [a] = (l ++ a :: r).take (l.length + 1) := by
  rw [List.take_append, List.take_of_length_le (by omega)]
  simp
theorem signed_small (u : Nat) (h : u < 9223372036854775808) : signed u = (u : Int) := by unfold signed; rw [if_pos h]

/-- value of four bytes. -/
theorem value_four (w : World) (l : Bytes) (hs : l.length ≤ 9223372036854775807) : Calls Try.prog 24 #[.string (sb l), .int .i64 4] w fun e w' => e = .returned (.int .i64 (natL l 4 : Nat)) ∧ w = w' := by
  have h := value_any w (sb l) 4 (by omega) (by rw [sb_size]; exact hs)
  rw [bs_sb, signed_small _ (by have := natL_lt l 4; omega)] at h
  exact h

set_option maxRecDepth 100000 in
set_option maxHeartbeats 1000000 in
theorem records_in (n : Nat) (hn : 1 ≤ n) (l Bd Be : Nat) (r : Rep) (d : DS) (stop : Nat) (F : Nat → Prop) (J Jx : List (Bytes × Bool) → World → Prop)
    (hstop : stop ≤ 16777216 + 64)
    (hY : ∀ pre x W, J pre W → pre.length < 20000000 → YieldAt Fence.wide (n - 1) Try.prog l #[.string (sb (clip x.1)), .bool x.2] W fun e W' =>
      (e = .returned (.bool true) ∧ J (pre ++ [x]) W' ∧ Keep F W W') ∨ (e = .returned (.bool false) ∧ Jx (pre ++ [x]) W'))
    (hJa : ∀ pre W m, J pre W → J pre (W.drewN m))
    (W : World) (hBd : W.cell? ⟨Bd, 0, none⟩ = some (.pointer (some ⟨r.p, 0, none⟩))) (hBe : W.cell? ⟨Be, 0, none⟩ = some (.int .i64 stop)) (hD : IsDisk W r d)
    (hFd : ∀ k, r.foot k → ¬ F k) (hFb : ¬ F Bd) (hFe : ¬ F Be) (h0 : J [] W) :
    CallsIn Fence.wide n Try.prog 38 #[.func (.yield l) #[] #[], .pointer (some ⟨Be, 0, none⟩), .pointer (some ⟨Bd, 0, none⟩)] W fun e W' => (∃ v, e = .returned v) ∧
      ((∃ ys, ys = visF 16777216 d.now 64 stop ∧ J ys W') ∨ (∃ pre, (∃ k, pre = (visF 16777216 d.now 64 stop).take k) ∧ Jx pre W')) := by
  have HY := Lib.hid hY; clear hY
  have HA := Lib.hid hJa; clear hJa
  have HFd := Lib.hid hFd; clear hFd
  refine callsIn_of_wp Try.func38 rfl trivial ?_ rfl
  simp only [Try.ntmps38, List.size_toArray, List.length_cons, List.length_nil, Nat.reduceAdd, Nat.reduceSub, Array.replicate_succ, Array.replicate_zero, List.push_toArray, List.append_toArray, List.nil_append, List.cons_append]
  have HI := Lib.hid (And.intro hBd (And.intro hBe (And.intro hD (And.intro h0 (Keep.refl F W)))))
  clear hBd hBe hD h0
  gi_wp2
  gi_loopw [4] (fun i wr => ∃ (pos f : Nat) (done : List (Bytes × Bool)), 64 ≤ pos ∧ stop ≤ pos + f ∧ i = .int .i64 (pos : Int) ∧ Hid (visF 16777216 d.now 64 stop = done ++ visF f d.now pos stop ∧ done.length + 64 ≤ pos ∧ J done wr ∧ Keep F W wr))
    (fun i _ => stop - (intOf i).toNat)
  case atStart => exact ⟨64, 16777216, [], by omega, by omega, rfl, Lib.hid ⟨rfl, by simp, HI.out.2.2.2.1, HI.out.2.2.2.2⟩⟩
  case round =>
    obtain ⟨pos, f, done, hp64, hpf, rfl, HR⟩ := hrel
    have hbd : wr.cell? ⟨Bd, 0, none⟩ = some (.pointer (some ⟨r.p, 0, none⟩)) := (HR.out.2.2.2.cell (World.block_lt_of_cell? _ _ HI.out.1) hFb).trans HI.out.1
    have hbe : wr.cell? ⟨Be, 0, none⟩ = some (.int .i64 stop) := (HR.out.2.2.2.cell (World.block_lt_of_cell? _ _ HI.out.2.1) hFe).trans HI.out.2.1
    have HD := Lib.hid (HI.out.2.2.1.keep HR.out.2.2.2 HFd.out)
    by_cases hlt : pos < stop
    · have b1 : decide (pos < stop) = true := by simpa using hlt
      gi_wp2_with fail
      refine ⟨trivial, ((callsIn_wide).2 (read_disk HD.out (pos : Int) 4 (by omega) (by decide))).mono ?_⟩
      rintro e w1 ⟨rfl, m, hm⟩
      have hbd1 : w1.cell? ⟨Bd, 0, none⟩ = some (.pointer (some ⟨r.p, 0, none⟩)) := hm ▸ hbd
      have hbe1 : w1.cell? ⟨Be, 0, none⟩ = some (.int .i64 stop) := hm ▸ hbe
      have hk1 : Keep F wr w1 := hm ▸ keep_drewN F wr m
      have J1 := Lib.hid (show J done w1 from hm ▸ HA.out _ _ m HR.out.2.2.1)
      have D1 := Lib.hid (HD.out.keep hk1 HFd.out)
      have K1 := Lib.hid (HR.out.2.2.2.trans hk1)
      have hlen : done.length < 20000000 := by have := HR.out.2.1; omega
      clear hm hbd hbe hk1
      gi_wp2_with fail
      refine ⟨trivial, ((callsIn_wide).2 (value_four w1 (readL d.now (pos : Int) 4) (by have := readL_len d.now pos 4; simp at this; omega))).mono ?_⟩
      rintro e wx ⟨rfl, rfl⟩
      obtain ⟨u, hu⟩ : ∃ u, natL (readL d.now (pos : Int) 4) 4 = u := ⟨_, rfl⟩
      have hu4 : u < 4294967296 := by rw [← hu]; exact natL_lt _ 4
      rw [hu]
      have HU := Lib.hid hu
      clear hu
      cases f with
      | zero => omega
      | succ f =>
        have hvis : visF (f + 1) d.now pos stop = if stop < pos + 4 + u then [([], false)] else (readL d.now ((pos + 4 : Nat) : Int) (u : Int), true) :: visF f d.now (pos + 4 + u) stop := by
          rw [visF, if_pos hlt, HU.out]
        by_cases hs : stop < pos + 4 + u
        · rw [if_pos hs] at hvis
          have HV := Lib.hid (HR.out.1.trans (by rw [hvis]))
          obtain ⟨fn, tmps, assign, body, hy, hR⟩ := HY.out done ([], false) w1 J1.out hlen
          simp only [clip_id (show ([] : Bytes).length ≤ 16777216 by decide), sb_nil] at hy
          have HRr := Lib.hid hR; clear hR hvis
          gi_wp2
          refine HRr.out.mono ?_
          rintro e1 W3 (⟨rfl, hJ3, hk3⟩ | ⟨rfl, hJx3⟩)
          · gi_wp2
            refine bodyPost_ret (results_none rfl _ _ _) rfl ?_
            exact ⟨⟨_, rfl⟩, .inl ⟨_, rfl, by rw [HV.out]; exact hJ3⟩⟩
          · gi_wp2
            refine bodyPost_ret (results_none rfl _ _ _) rfl ?_
            exact ⟨⟨_, rfl⟩, .inr ⟨_, ⟨(done ++ [([], false)]).length, by rw [HV.out, List.take_length]⟩, hJx3⟩⟩
        · rw [if_neg hs] at hvis
          have HV := Lib.hid (HR.out.1.trans (by rw [hvis]))
          clear hvis
          gi_wp2_with fail
          refine ⟨trivial, ((callsIn_wide).2 (read_disk D1.out ((pos : Int) + 4) (u : Int) (by omega) (by omega))).mono ?_⟩
          rintro e w2 ⟨rfl, m, hm⟩
          have hk2 : Keep F w1 w2 := hm ▸ keep_drewN F w1 m
          have J2 := Lib.hid (show J done w2 from hm ▸ HA.out _ _ m J1.out)
          have K2 := Lib.hid (K1.out.trans hk2)
          obtain ⟨x, hx⟩ : ∃ x, readL d.now ((pos : Int) + 4) (u : Int) = x := ⟨_, rfl⟩
          rw [hx]
          have HX := Lib.hid (show readL d.now ((pos + 4 : Nat) : Int) (u : Int) = x by rw [← hx]; rfl)
          obtain ⟨fn, tmps, assign, body, hy, hR⟩ := HY.out done (x, true) w2 J2.out hlen
          simp only [clip_id (show x.length ≤ 16777216 by rw [← hx]; exact Nat.le_trans (readL_le _ _ _) HD.out.ok.now)] at hy
          have HRr := Lib.hid hR
          clear hm hk2 hx hR
          gi_wp2
          refine HRr.out.mono ?_
          rintro e1 W3 (⟨rfl, hJ3, hk3⟩ | ⟨rfl, hJx3⟩)
          · have J3 := Lib.hid hJ3
            have K3 := Lib.hid (K2.out.trans hk3)
            clear hJ3 hk3
            gi_wp2
            go_roundw
            case rel => exact ⟨pos + 4 + u, f, done ++ [(x, true)], by omega, by omega, by go_num, Lib.hid ⟨by rw [HV.out, HX.out]; simp, by have := HR.out.2.1; simp; omega, J3.out, K3.out⟩⟩
            case measure => simp [intOf]; omega
          · have J3 := Lib.hid hJx3
            clear hJx3
            gi_wp2
            refine bodyPost_ret (results_none rfl _ _ _) rfl ?_
            exact ⟨⟨_, rfl⟩, .inr ⟨_, ⟨done.length + 1, by rw [HV.out, HX.out]; exact take_one_more _ _ _⟩, J3.out⟩⟩
    · have b1 : decide (pos < stop) = false := by simpa using hlt
      have HV := Lib.hid (HR.out.1.trans (by rw [visF_stop _ _ _ _ hlt, List.append_nil]))
      gi_wp2_with fail
      go_end0
      exact ⟨⟨_, rfl⟩, .inl ⟨_, rfl, by rw [HV.out]; exact HR.out.2.2.1⟩⟩
end Go.Proofs.Ytbmmcdnmbdoglaa
