/- DiskSynced: what was written before a Sync survives every crash. -/
import Derived.Test.YthhcnfbolhoeaaaAgain
import Derived.Test.YthhcnfbolhoeaaaP1
import Derived.Deep.RegionHeld3
import Derived.IntWalk
namespace Go.Proofs.Ythhcnfbolhoeaaa
open Go.ChangeShapes Go.WideShapes Go.ChangeAt Go.RowKit
set_option linter.unusedVariables false

/-- What holds of a disk that saw only small writes near the start. -/
def DS.calm (d : DS) : Prop := d.failing = false ∧ d.now.length ≤ 203
theorem calm_new : DS.new.calm := ⟨rfl, by decide⟩
theorem calm_act {d : DS} (h : d.calm) (off n : Int) (t : ByteArray) (ho : off < 4) : (d.act ⟨0, off, n, t⟩).calm := by
  have e : d.act ⟨0, off, n, t⟩ = (d.doWrite (Act'.where_ ⟨0, off, n, t⟩) (bs (Act'.long ⟨0, off, n, t⟩))).2 := rfl
  rw [e]
  have hl := Act'.long_size ⟨0, off, n, t⟩
  have hw : (Act'.where_ ⟨0, off, n, t⟩) < 4 := by
    unfold Act'.where_
    simp only
    split <;> omega
  obtain ⟨s, hs⟩ : ∃ s, bs (Act'.long ⟨0, off, n, t⟩) = s := ⟨_, rfl⟩
  have hsl : s.length ≤ 200 := by rw [← hs, bs_length]; exact hl
  rw [hs]
  obtain ⟨o, ho'⟩ : ∃ o, Act'.where_ ⟨0, off, n, t⟩ = o := ⟨_, rfl⟩
  rw [ho'] at hw ⊢
  unfold DS.doWrite
  split
  · split
    · exact h
    · refine ⟨h.1, ?_⟩
      show (putL d.now o.toNat s).length ≤ 203
      rw [putL_length]
      have := h.2
      omega
  · exact h
theorem readL_take (c : Bytes) (n : Nat) (h : n ≤ c.length) : readL c 0 (n : Int) = c.take n := by
  unfold readL
  by_cases h0 : n = 0
  · subst h0; rw [if_pos (by omega)]; simp
  · rw [if_neg (by omega)]
    rw [show (min (n : Int) ((c.length : Int) - 0)).toNat = n by omega]
    rfl
/-- What a Sync, a Write behind the end, and a crash do to what was there. -/
theorem synced_survives {d : DS} (h : d.calm) (m : Nat) (hm : m < 100) (y : Bytes) (hy : y.length < 150) (q : List Int) :
    d.doSync = (0, d.sync) ∧ d.sync.doWrite ((d.now.length : Int) + m) y = (0, d.sync.write (d.now.length + m) y) ∧
      readL ((d.sync.write (d.now.length + m) y).crash q).now 0 (d.now.length : Int) = d.now ∧ (d.sync.write (d.now.length + m) y).parts.length ≤ 150 := by
  have hl := h.2
  have hoff : d.off = false := by unfold DS.off; rw [h.1]; rfl
  have hoff2 : d.sync.off = false := by unfold DS.off DS.sync DS.called; simp [h.1]
  refine ⟨?_, ?_, ?_, ?_⟩
  · unfold DS.doSync; rw [hoff]; rfl
  · unfold DS.doWrite
    rw [if_pos (by unfold fitsAt; simp; omega), hoff2]
    simp only [Bool.false_eq_true, if_false]
    rw [show ((d.now.length : Int) + m).toNat = d.now.length + m by omega]
  · have hb := crash_before q d.now.length (pieces (d.now.length + m) y) 0 d.now (Nat.le_refl _) (fun p hp => by have := (pieces_in y.length _ y (Nat.le_refl _) p hp).1; omega)
    have e : ((d.sync.write (d.now.length + m) y).crash q).now = crashL q 0 d.now (pieces (d.now.length + m) y) := rfl
    rw [e, readL_take _ _ hb.2, hb.1, List.take_length]
  · have e : (d.sync.write (d.now.length + m) y).parts = [] ++ pieces (d.now.length + m) y := rfl
    rw [e, List.nil_append]
    have := pieces_length y.length (d.now.length + m) y (Nat.le_refl _)
    omega
theorem cell_since {n : Nat} {w w' : World} {a : Addr} {v : Value} (h : Since n w w') (hc : w.cell? a = some v) (ha : a.block < n) : w'.cell? a = some v :=
  (h.cell (World.block_lt_of_cell? _ _ hc) (fun h' => by omega)).trans hc
theorem few_sync_write {d : DS} {k : Nat} (h : d.few k) (o : Nat) (y : Bytes) : d.sync.few (k + 1) := ⟨by show d.calls + 1 ≤ _; have := h.1; omega, Nat.zero_le _⟩
/-- A step of a desk's disk leaves its cells. -/
theorem Desk.q_out {n : Nat} {w w1 : World} {q : Nat} {r r' : Rep} {ρ : RRep} {d d' : DS} (h : Desk n w q r ρ d) (h1 : Step w r w1 r' d') : ¬ r'.foot q := fun hk => by
  rcases h1.foot q hk with h3 | h3
  · exact h.q1 h3
  · have := blk_lt h.blk; omega
theorem step_low {n : Nat} {w w1 : World} {r r' : Rep} {d' : DS} (h : ∀ k, r.foot k → n ≤ k) (hn : n ≤ w.heap.size) (h1 : Step w r w1 r' d') : ∀ k, r'.foot k → n ≤ k := fun k hk => by
  rcases h1.foot k hk with h3 | h3
  · exact h k h3
  · omega

set_option maxHeartbeats 1500000 in
set_option maxRecDepth 100000 in
theorem synced_walk (A : Option Addr) (n c : Nat) (l : List Act') (t0 t1 : Int) (A1 : Option Addr) (n1 c1 : Nat) (a1 : List Int) (w : World) (hA : ActsAt w A n l)
    (ht0 : i64In t0) (ht1 : i64In t1) (h1 : IntsAt w A1 n1 a1) (w1 : ∀ x ∈ a1, -9223372036854775808 ≤ x ∧ x ≤ 9223372036854775807) :
    Calls Try.prog 6 #[.slice A n c, .agg #[.int .i64 t0, .int .i64 t1], .slice A1 n1 c1] w fun e w' => e = .returned (.bool true) ∧ Below w.heap.size w w' := by
  have hnl := hA.2.1
  have HA := Lib.hid hA
  have H1 := Lib.hid h1
  have W1 := Lib.hid w1
  obtain ⟨a0, ha0⟩ : ∃ a0 : Nat, t0 % 100 = a0 := ⟨(t0 % 100).toNat, by omega⟩
  obtain ⟨a2, ha2⟩ : ∃ a2 : Nat, t1 % 150 = a2 := ⟨(t1 % 150).toNat, by omega⟩
  have hb0 : a0 < 100 := by omega
  have hb2 : a2 < 150 := by omega
  have M0 := fun w => Lib.hid (ha0 ▸ mod_any w t0 100 (by decide) (by decide) ht0)
  have M1 := fun w => Lib.hid (ha2 ▸ mod_any w t1 150 (by decide) (by decide) ht1)
  clear hA h1 w1 ha0 ha2 ht0 ht1
  go_enter Try.func6, Try.ntmps6
  go_wp2_with fail
  obtain ⟨w0, hw0⟩ : ∃ w0, w.alloc (.cells #[.int .i64 t0, .int .i64 t1] 42) = w0 := ⟨_, rfl⟩
  rw [hw0]
  have hk0 : Keep (fun _ => False) w w0 := by rw [← hw0]; exact (Keep.refl _ w).alloc' _
  have hz0 : w.heap.size < w0.heap.size := by rw [← hw0]; simp
  have hb : w0.heap[w.heap.size]? = some (.cells #[.int .i64 t0, .int .i64 t1] 42 (0, 0)) := by rw [← hw0]; exact heap_alloc_new _ _
  have hc0 : w0.cell? ⟨w.heap.size, 0, none⟩ = some (.int .i64 t0) := by rw [blk_cell hb]; rfl
  have hc1 : w0.cell? ⟨w.heap.size, 1, none⟩ = some (.int .i64 t1) := by rw [blk_cell hb]; rfl
  have HA0 := Lib.hid (HA.out.keep hk0 (fun _ _ => id)); have HI10 := Lib.hid (H1.out.keep hk0 (fun _ _ => id)); have HC0 := Lib.hid hc0; have HC1 := Lib.hid hc1; have S0 := Lib.hid (Since.of (n := w.heap.size) hk0); have HZ0 := Lib.hid hz0
  clear hc0 hc1 hk0 hz0 hb hw0 HA H1
  refine (sanity_any w0).mono ?_
  rintro e w1 ⟨rfl, hs1⟩
  have S1 := Lib.hid hs1; clear hs1
  go_wp2_with fail
  refine (new_D w1).mono ?_
  rintro e w2 ⟨rfl, hd2, hs2⟩
  have D2 := Lib.hid hd2; have S2 := Lib.hid hs2; clear hd2 hs2
  go_wp2_with fail
  refine (new_ref w2).mono ?_
  rintro e w3 ⟨rfl, hw3⟩
  have hdk := desk_new D2.out S2.out hw3
  clear hw3
  go_wp2_with fail
  have HI0 := Lib.hid (show DK w1.heap.size _ w3.heap.size DS.new ∧ (DS.new.few (200 * 0) ∧ DS.new.calm) ∧ Since w0.heap.size w0 _ from ⟨hdk.1, ⟨new_few, calm_new⟩, Keep.trans S1.out (Since.mono hdk.2 S1.out.size)⟩)
  clear hdk D2 S2
  go_loopw [9] (fun i wr => ∃ k : Nat, k ≤ 10 ∧ i = .int .i64 (k : Int) ∧ ∃ d : DS, Hid (DK w1.heap.size wr w3.heap.size d ∧ (d.few (200 * k) ∧ d.calm) ∧ Since w0.heap.size w0 wr)) (fun i _ => 11 - (intOf i).toNat)
  case atStart => exact ⟨0, by omega, rfl, _, HI0⟩
  case round =>
    obtain ⟨k, hk, rfl, d, HI⟩ := hrel
    obtain ⟨wo, rfl⟩ : ∃ wo : World, wo = wr := ⟨_, rfl⟩
    by_cases hlt : k < n ∧ k < 10
    · obtain ⟨b, off, rfl, a, hae, ha, x0, x1, x2, x3⟩ := (HA0.out.since HI.out.2.2 (Nat.le_refl _)).at_ k hlt.1
      clear hae
      have hl1 := hlt.1
      have hl2 := hlt.2
      have b1 : decide (k < n) = true := by simpa using hl1
      have b2 : decide (k < 10) = true := by simpa using hl2
      have hf := HI.out.2.1
      obtain ⟨kd, ao, an, tx⟩ := a
      simp only at x0 x1 x2 x3
      obtain ⟨k4, hk4⟩ : ∃ k4, ao.tmod 4 = k4 := ⟨_, rfl⟩
      have hk4a : k4 < 4 := by rw [← hk4]; exact Int.tmod_lt_of_pos ao (by decide)
      have hk4b : -4 < k4 := by rw [← hk4]; exact Int.lt_tmod_of_pos ao (by decide)
      have hdo := do_any (w := wo.drew) (HI.out.1.since (Since.of (keep_draw (fun _ => False) wo)) (Nat.le_refl _)) (hf.1.mono (by omega)) ⟨0, k4, an, tx⟩ ⟨by unfold i64In; simp only; omega, by unfold i64In; simp only; omega, ha.n, ha.text⟩
      simp only at hdo
      have HC := Lib.hid hdo
      have HF := Lib.hid (And.intro (act_few hf.1 ⟨0, k4, an, tx⟩) (calm_act hf.2 k4 an tx hk4a))
      have HK4 := Lib.hid hk4
      clear hlt hf hdo hk4 ha
      go_wp2_with fail
      go_still_tail 18, (by kernel_rfl)
      change wpList _ _ _ _ _ wo.drew
      have y1 : wo.drew.cell? ⟨b, off + k * 4 + 1, none⟩ = some (.int .i64 ao) := x1
      have y2 : wo.drew.cell? ⟨b, off + k * 4 + 2, none⟩ = some (.int .i64 an) := x2
      have y3 : wo.drew.cell? ⟨b, off + k * 4 + 3, none⟩ = some (.string tx) := x3
      clear x0 x1 x2 x3
      go_wp2_with fail
      rw [HK4.out]
      ((with_reducible refine HC.out.mono ?_); rintro e w5 ⟨rfl, hd5, hs5⟩)
      have HD := Lib.hid hd5
      have S5 := Lib.hid (Keep.trans (Keep.trans HI.out.2.2 (Since.of (keep_draw (fun _ => False) wo))) (Since.mono hs5 S1.out.size))
      clear hd5 hs5 y1 y2 y3
      go_wp2_with fail
      all_goals go_roundw
      all_goals first
        | exact ⟨k + 1, by omega, by go_num, _, Lib.hid ⟨HD.out, ⟨HF.out.1.mono (by omega), HF.out.2⟩, S5.out⟩⟩
        | (simp [intOf]; omega)
    · have hcase : (k < n ∧ ¬ k < 10 ∧ decide (k < n) = true ∧ decide (k < 10) = false) ∨ (¬ k < n ∧ decide (k < n) = false) := by
        by_cases hl1 : k < n
        · exact .inl ⟨hl1, by omega, by simpa using hl1, by simp; omega⟩
        · exact .inr ⟨hl1, by simpa using hl1⟩
      obtain ⟨hdk, ⟨hfw, hcalm⟩, hsw⟩ := HI.out
      obtain ⟨r, ρ, hd⟩ := hdk
      obtain ⟨L, hL⟩ : ∃ L, d.now.length = L := ⟨_, rfl⟩
      have hL2 : L ≤ 203 := by rw [← hL]; exact hcalm.2
      have hsv := synced_survives hcalm a0 hb0 (List.replicate a2 121) (by simp; omega) a1
      rw [hL] at hsv
      obtain ⟨d2, hd2⟩ : ∃ d2, d.sync.write (L + a0) (List.replicate a2 121) = d2 := ⟨_, rfl⟩
      rw [hd2] at hsv
      have hst1 := sync_step hd.disk (hfw.mono (by omega))
      rw [hsv.1] at hst1
      simp only at hst1
      have HST1 := Lib.hid hst1
      have HSV := Lib.hid hsv
      have HL := Lib.hid hL
      have HDK := Lib.hid hd
      have HFS := Lib.hid (few_sync_write hfw 0 [])
      have S5 := Lib.hid hsw
      have kc0 := hd.cells.1
      have k1 := cell_since hsw HC0.out (by have := HZ0.out; simp only; omega)
      have k2 := cell_since hsw HC1.out (by have := HZ0.out; simp only; omega)
      have hql := blk_lt hd.blk
      have hlow := hd.low
      have hw1s := S1.out.size
      have hz0 := HZ0.out
      have HLOW := Lib.hid hlow
      have HQL := Lib.hid (And.intro hql (And.intro hw1s hz0))
      have HX := Lib.hid hd.q1
      clear hlt hd hfw hsw hsv hst1 hcalm hd2 hL hlow hql hw1s hz0
      rcases hcase with ⟨hl1, hl2, b1, b2⟩ | ⟨hl1, b1⟩
      all_goals (
        go_wp2_with fail
        ((with_reducible refine HST1.out.mono ?_); rintro e w5 ⟨rfl, r1, hst⟩)
        have kc1 := cell_keep hst.keep kc0 HX.out
        have k1' := cell_keep hst.keep k1 (fun h' => absurd (HLOW.out.2.1 _ h') (by have := HQL.out; show ¬ (w1.heap.size ≤ w.heap.size); omega))
        have k2' := cell_keep hst.keep k2 (fun h' => absurd (HLOW.out.2.1 _ h') (by have := HQL.out; show ¬ (w1.heap.size ≤ w.heap.size); omega))
        have HS := Lib.hid hst
        have D5 := Lib.hid (D.step rfl HLOW.out.2.1 (by have := HLOW.out.1; have := HQL.out; omega) hst)
        clear hst kc0 k1 k2
        go_wp2_with fail
        refine (size_D D5.out.1).mono ?_
        rintro e wx ⟨rfl, rfl⟩
        rw [show (d.sync.now.length : Nat) = L from HL.out]
        go_wp2_with fail
        refine (read_S (l := d.now) D5.out.1 0 (L : Int) (by decide) (by omega) (by rw [readL_take _ _ (by rw [← HL.out]; exact Nat.le_refl _), ← HL.out]; exact List.take_length)).mono ?_
        rintro e w6 ⟨rfl, hs6⟩
        have kc6 := cell_since hs6 kc1 (World.block_lt_of_cell? _ _ kc1)
        have k16 := cell_since hs6 k1' (World.block_lt_of_cell? _ _ k1')
        have k26 := cell_since hs6 k2' (World.block_lt_of_cell? _ _ k2')
        have S6 := Lib.hid hs6
        have KC := Lib.hid (And.intro kc6 (And.intro k16 k26))
        have K := Lib.hid (keep_draw (fun k => w6.heap.size ≤ k) w6)
        have hdd : ∀ w', Since w6.heap.size w6 w' → Calls Try.prog 27 #[.pointer (some ⟨r.p, 0, none⟩), .int .i64 ((L : Int) + (a0 : Int)), .string (sb (List.replicate a2 121))] w' fun e w'' => e = .returned (.int .i64 0) ∧ ∃ r2, Step w' r1 w'' r2 d2 := by
          intro w' hw'
          have hdk := (HS.out.disk.keep hs6 (fun k hk hk' => by have := HS.out.disk.foot_lt k hk; omega))
          have hdk' := hdk.keep hw' (fun k hk hk' => by have := hdk.foot_lt k hk; omega)
          have h := write_step hdk' ((L : Int) + (a0 : Int)) (sb (List.replicate a2 121)) (by omega) (by rw [sb_size]; simp; omega) (HFS.out.mono (by omega))
          rw [bs_sb, HSV.out.2.1, HS.out.p] at h
          exact h
        have HW := Lib.hid hdd
        clear hdd hs6 kc1 k1' k2' kc6 k16 k26
        go_wp2_with fail
        have hsum : IntKind.i64.wrap ((L : Int) + (a0 : Int)) = (L : Int) + (a0 : Int) := IntWalk.i64_in _ (by omega)
        go_region_held3 (fun w' => w'.cell? ⟨w3.heap.size, 0, none⟩ = some (.pointer (some ⟨r.p, 0, none⟩)) ∧ w'.cell? ⟨w.heap.size, 0, none⟩ = some (.int .i64 t0) ∧ w'.cell? ⟨w.heap.size, 1, none⟩ = some (.int .i64 t1)) (first | exact KC.out)
          (first
            | (go_at_call 22; (first | ((with_reducible refine (M0 _).out.mono ?_); rintro e wx ⟨rfl, rfl⟩) | ((with_reducible refine (M1 _).out.mono ?_); rintro e wx ⟨rfl, rfl⟩)))
            | (go_at_call 26; refine (repeated_any _ 121 a2 (by omega)).mono ?_; rintro e wn ⟨rfl, hsr⟩; replace KC := Lib.hid (And.intro (cell_since hsr KC.out.1 (World.block_lt_of_cell? _ _ KC.out.1)) (And.intro (cell_since hsr KC.out.2.1 (World.block_lt_of_cell? _ _ KC.out.2.1)) (cell_since hsr KC.out.2.2 (World.block_lt_of_cell? _ _ KC.out.2.2)))); replace K := Lib.hid (Keep.trans K.out (Since.mono hsr K.out.size)); clear hsr)
            | (go_at_call 27; ((with_reducible refine (HW.out _ K.out).mono ?_); rintro e w8 ⟨rfl, r2, hst2⟩); have HS2 := Lib.hid hst2; replace KC := Lib.hid (And.intro (cell_keep hst2.keep KC.out.1 (fun h' => HDK.out.q_out HS.out h')) (And.intro (cell_keep hst2.keep KC.out.2.1 (fun h' => absurd (step_low HLOW.out.2.1 (by have := HLOW.out.1; have := HQL.out; omega) HS.out _ h') (by have := HQL.out; show ¬ (w1.heap.size ≤ w.heap.size); omega))) (cell_keep hst2.keep KC.out.2.2 (fun h' => absurd (step_low HLOW.out.2.1 (by have := HLOW.out.1; have := HQL.out; omega) HS.out _ h') (by have := HQL.out; show ¬ (w1.heap.size ≤ w.heap.size); omega))))); clear hst2))
        all_goals clear hsum
        all_goals (
          have hlow1 := step_low HLOW.out.2.1 (by have := HLOW.out.1; have := HQL.out; omega) HS.out
          have hx1 := Keep.trans (Keep.trans S5.out (Keep.mono HS.out.keep (fun k hk => Nat.le_trans HQL.out.2.1 (HLOW.out.2.1 k hk)))) (Since.mono S6.out (Nat.le_trans S5.out.size HS.out.keep.size))
          have hx2 := Keep.trans hx1 (Since.mono K.out hx1.size)
          have hx3 := Keep.trans hx2 (Keep.mono HS2.out.keep (fun k hk => Nat.le_trans HQL.out.2.1 (hlow1 k hk)))
          have hlow2 := step_low hlow1 (Nat.le_trans (by have := HLOW.out.1; have := HQL.out; omega) (Nat.le_trans HS.out.keep.size (Nat.le_trans S6.out.size K.out.size))) HS2.out
          have hd8 : D w1.heap.size w8 r.p d2 := ⟨r2, HS2.out.p.trans HS.out.p, HS2.out.disk, hlow2⟩
          have D8 := Lib.hid hd8
          have S8 := Lib.hid hx3
          have kc8 := KC.out.1
          clear hlow1 hx1 hx2 hx3 hlow2 hd8
          go_wp2_with fail
          refine (crash_D D8.out A1 n1 c1 a1 (ints_go HI10.out S8.out (Nat.le_refl _)) W1.out (by have := HSV.out.2.2.2; omega)).mono ?_
          rintro e w9 ⟨rfl, hd9, hs9⟩
          have D9 := Lib.hid hd9
          have S9 := Lib.hid (Keep.trans S8.out (Since.mono hs9 S8.out.size))
          clear hd9 hs9 kc8
          go_wp2_with fail
          refine (read_S (l := d.now) D9.out 0 (L : Int) (by decide) (by omega) HSV.out.2.2.1).mono ?_
          rintro e w10 ⟨rfl, hs10⟩
          have S10 := Lib.hid (Keep.trans S9.out (Since.mono hs10 S9.out.size))
          clear hs10
          go_wp2_with fail
          go_ret
          exact ⟨rfl, below_since (Keep.trans S0.out (Since.mono S10.out S0.out.size)) rfl⟩))
set_option maxRecDepth 100000 in
theorem synced_lifted (os : Os) (started : os.Started) (H : Type) (enc : TypeId × Value → H) :
    ReturnsInHanded {} Try.checked os 6 .any (Rows.diskSyncedSpec.pre6 enc Try.prog Try.f6 Rows.diskSyncedRow.domain false) (Rows.diskSyncedSpec.post enc Try.prog Try.f6 false true false false) := by
  refine law_lift (C := Try.checked) Try.own started (by kernel_rfl) Try.func6
    (ChangeSpec.witness6 (enc := enc) (C := Try.checked) false ⟨#[], #[.slice none 0 0, .agg #[.int .i64 0, .int .i64 0], .slice none 0 0], []⟩ 8 (by kernel_rfl) (by kernel_rfl) (by kernel_rfl) (by kernel_rfl))
    Try.laidOut (by kernel_rfl) rfl rfl Try.underlying4 ?_ ?_
  · intro ds hl
    match ds, hl with
    | [d1, d2, d3], _ => exact ⟨rfl, rfl, rfl⟩
  · intro W base args ds p hval0 hA0 hlt hsz0
    have hval : ∀ (j : Nat) t v, Try.f6.params[j]? = some t → args[j]? = some v → Value.okWide Try.prog W .any base t v := hval0
    have hA : DataW.TrodAll enc Try.prog W 0 (fun _ => true) true Try.f6.params.toList args.toList ds p := hA0
    have hsz : (DataW.weightsEach Try.prog Try.f6.params.toList ds).all (· ≤ reachBytes) = true := hsz0
    rw [Try.params6] at hA hval hsz
    clear hA0 hval0 hsz0
    obtain ⟨v0, v1, v2, d0, d1, d2, p0, p1, p2, rfl, rfl, rfl, h0, h1, h2⟩ := trodAll_three hA
    have hlt0 : ∀ x ∈ p0, x.block < W.heap.size := fun x hx => hlt x (by simp [hx])
    have hlt1 : ∀ x ∈ p1, x.block < W.heap.size := fun x hx => hlt x (by simp [hx])
    have hlt2 : ∀ x ∈ p2, x.block < W.heap.size := fun x hx => hlt x (by simp [hx])
    obtain ⟨Al, nl, cl, l, rfl, il⟩ := open_acts Try.underlying22 Try.underlying33 (by kernel_rfl) (by kernel_rfl) Try.underlying3 Try.underlying3 Try.underlying3 Try.underlying9 (hval 0 22 v0 rfl rfl) h0 hlt0
    obtain ⟨t0, t1, rfl, wt0, wt1⟩ := open_int_array2 Try.underlying42 Try.underlying3 (by kernel_rfl) (by kernel_rfl) (hval 1 42 v1 rfl rfl) h1
    obtain ⟨Aq, nq, cq, q, rfl, iq, zq, rq, wq⟩ := open_ints_at Try.underlying36 Try.underlying3 (by kernel_rfl) (by kernel_rfl) (hval 2 36 v2 rfl rfl) h2 hlt2 (fun el sp hd => sized_slice hsz (j := 2) rfl (by simp [hd]) Try.underlying36)
    exact synced_walk Al nl cl l t0 t1 Aq nq cq q W il (bd_i64 wt0) (bd_i64 wt1) iq (fun x hx => bd_i64 (wq x hx))

/-- The statement. -/
theorem synced_holds : Rows.DiskSyncedSaid :=
  OpenClaim.holds_of_wide 6 Try.f6 rfl rfl rfl rfl rfl rfl rfl ⟨rfl, rfl, rfl, rfl, rfl⟩ rfl rfl rfl rfl rfl (by kernel_rfl) Try.func6 (by kernel_rfl)
    (of_decide_eq_true (by kernel_rfl)) (by unfold Func.isWrapper; first | (rw [if_pos (by decide +kernel)]; kernel_rfl) | (rw [if_neg (by decide +kernel)]; exact ⟨rfl, rfl⟩))
    (fun os started H enc _ => synced_lifted os started H enc)
#print axioms synced_holds
end Go.Proofs.Ythhcnfbolhoeaaa
