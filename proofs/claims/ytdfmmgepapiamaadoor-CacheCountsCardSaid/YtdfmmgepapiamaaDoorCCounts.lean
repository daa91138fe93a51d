/- CacheCounts: hits and misses together are as many as calls of Find; a hit is a call that returned true: for every list of calls the law returns true. -/
import Derived.Test.YtdfmmgepapiamaaDoorS5
import Derived.Test.YtdfmmgepapiamaaDoorKLT
import Derived.Test.YtdfmmgepapiamaaDoorKA3
namespace Go.Proofs.YtdfmmgepapiamaaDoor
open Go.ChangeShapes Go.WideShapes Go.ChangeAt Go.RowKit
set_option linter.unusedVariables false

def CI (w wr : World) (p : Nat) (s : CS) (k : Int) : Prop := IsSite wr p s ∧ s.few k ∧ Since w.heap.size w wr
theorem mod4_cases (x : Int) (hx : -9223372036854775808 ≤ x ∧ x ≤ 9223372036854775807) : ∃ r q : Int, x.tmod 4 = r ∧ -3 ≤ r ∧ r ≤ 3 ∧ (r + 4) % 4 = q ∧ (q = 2 ∨ q = 3 ∨ q = 0 ∨ q = 1) := by
  refine ⟨x.tmod 4, (x.tmod 4 + 4) % 4, rfl, ?_, ?_, rfl, by omega⟩
  · by_cases h : 0 ≤ x
    · rw [Int.tmod_eq_emod_of_nonneg h]; omega
    · have := Int.neg_tmod x 4
      have h2 := Int.tmod_eq_emod_of_nonneg (a := -x) (b := 4) (by omega)
      omega
  · by_cases h : 0 ≤ x
    · rw [Int.tmod_eq_emod_of_nonneg h]; omega
    · have := Int.neg_tmod x 4
      have h2 := Int.tmod_eq_emod_of_nonneg (a := -x) (b := 4) (by omega)
      omega
theorem learn_counts (s : CS) (x y : Int) : (s.learn x y).2.hits = s.hits ∧ (s.learn x y).2.misses = s.misses := by
  unfold CS.learn
  repeat' split
  all_goals exact ⟨rfl, rfl⟩
theorem forget_counts (s : CS) (x : Int) : (s.forget x).2.hits = s.hits ∧ (s.forget x).2.misses = s.misses := by
  unfold CS.forget
  split <;> exact ⟨rfl, rfl⟩
theorem find_counts (s : CS) (x : Int) : (s.find x).2.hits = (if (s.find x).1.2 = true then s.hits + 1 else s.hits) ∧ (s.find x).2.misses = (if (s.find x).1.2 = true then s.misses else s.misses + 1) := by
  unfold CS.find
  split <;> simp
set_option maxHeartbeats 4000000 in
set_option maxRecDepth 100000 in
theorem counts_walk (A : Option Addr) (n c : Nat) (l : List Act') (w : World) (hA : ActsAt w A n l) (hT : TB w) :
    Calls Tryd.prog 6 #[.slice A n c] w fun e w' => e = .returned (.bool true) ∧ Below w.heap.size w w' := by
  have hnl := hA.2.1
  have HA := Lib.hid hA
  have T := Lib.hid hT
  have h0 := hT.pos
  clear hT hA
  go_enter Tryd.func6, Tryd.ntmps6
  go_wp2_with fail
  ((with_reducible refine (sanity_any w T.out).mono ?_); rintro e w1 ⟨rfl, hk1⟩)
  have S1 := Lib.hid hk1; clear hk1
  go_wp2_with fail
  ((with_reducible refine (new_site w1).mono ?_); rintro e w2 ⟨rfl, hs2, hk2⟩)
  have Z := S1.out.size
  obtain ⟨p, hp⟩ : ∃ p, w1.heap.size = p := ⟨_, rfl⟩
  rw [hp] at hs2 Z ⊢
  have HI0 := Lib.hid (show CI w w2 p CS.new ((0 : Nat) : Int) from ⟨hs2, ⟨by decide, by decide⟩, Keep.trans S1.out (Since.mono (hp ▸ hk2) Z)⟩)
  clear hp hs2 hk2 S1
  go_wp2_with fail
  go_loopw [5, 6, 7] (fun h a i wr => ∃ k : Nat, k ≤ 60 ∧ i = .int .i64 (k : Int) ∧ ∃ s : CS, h = .int .i64 s.hits ∧ a = .int .i64 (s.hits + s.misses) ∧ Hid (CI w wr p s (k : Int))) (fun _ _ i _ => 61 - (intOf i).toNat)
  case atStart => exact ⟨0, by omega, rfl, _, rfl, rfl, HI0⟩
  case round =>
    obtain ⟨k, hk, rfl, s, rfl, rfl, HI⟩ := hrel
    obtain ⟨wo, rfl⟩ : ∃ wo : World, wo = wr := ⟨_, rfl⟩
    have hh := HI.out.1.ok.hits
    have hm := HI.out.1.ok.misses
    by_cases hlt : k < n ∧ k < 60
    · obtain ⟨b, off, rfl, a, hae, ha, x0, x1, x2⟩ := (HA.out.since HI.out.2.2 (Nat.le_refl _)).at_ k hlt.1
      obtain ⟨ax, ay, az⟩ := a
      have hay := ha.y
      have haz := ha.z
      obtain ⟨r, q, e1, r1, r2, e2, hq⟩ := mod4_cases ax ha.x
      clear hae ha
      simp only at x0 x1 x2 hay haz
      have hl1 := hlt.1
      have hl2 := hlt.2
      have b1 : decide (k < n) = true := by simpa using hl1
      have b2 : decide (k < 60) = true := by simpa using hl2
      clear hlt
      rcases hq with rfl | rfl | rfl | rfl
      · go_wp2_with fail
        have ha0 : Since w.heap.size wo (wo.alloc (.cells #[.int .i64 ax, .int .i64 ay, .int .i64 az] 34)) := Since.of ((Keep.refl _ wo).alloc' _)
        obtain ⟨wa, hwa⟩ : ∃ wa, wo.alloc (.cells #[.int .i64 ax, .int .i64 ay, .int .i64 az] 34) = wa := ⟨_, rfl⟩
        have PA := Lib.hid (show IsSite wa p s from hwa ▸ HI.out.1.keep ((Keep.refl (fun _ => False) wo).alloc' _) id)
        rw [hwa] at ha0 ⊢
        have SA := Lib.hid (Keep.trans HI.out.2.2 ha0)
        clear hwa ha0
        have h5 := learn_any PA.out ay az hay haz
        obtain ⟨c1, c2⟩ := learn_counts s ay az
        have FW := Lib.hid ((learn_few HI.out.2.1 ay az).mono (show (k : Int) ≤ ((k + 1 : Nat) : Int) by omega))
        obtain ⟨v5, s5, h5e⟩ : ∃ v5 s5, s.learn ay az = (v5, s5) := ⟨_, _, rfl⟩
        rw [h5e] at h5 c1 c2 FW
        have H5 := Lib.hid h5
        clear h5 h5e
        ((with_reducible refine H5.out.mono ?_); rintro e w5 ⟨rfl, hs5, hk5⟩)
        have P5 := Lib.hid hs5; have S5 := Lib.hid (Keep.trans SA.out (since_at hk5 Z))
        have hc := counts_any hs5
        clear hs5 hk5 H5 SA PA x0 x1 x2
        simp only at c1 c2
        rw [c1, c2] at hc
        have HC := Lib.hid hc
        have HE1 := Lib.hid (show Value.int .i64 s.hits = .int .i64 s5.hits by rw [c1])
        have HE2 := Lib.hid (show Value.int .i64 (s.hits + s.misses) = .int .i64 (s5.hits + s5.misses) by rw [c1, c2])
        clear hc c1 c2
        go_wp2_with fail
        ((with_reducible refine HC.out.mono ?_); rintro e w6 ⟨rfl, k6, rfl⟩)
        have S6 := Lib.hid (Keep.trans S5.out (since_draw w.heap.size k6 w5))
        have P6 := Lib.hid (P5.out.keep (keep_drewN (fun _ => False) w5 k6) id)
        obtain ⟨w6, hw6⟩ : ∃ w6, w5.drewN k6 = w6 := ⟨_, rfl⟩
        rw [hw6] at S6 P6 ⊢
        clear hw6 HC S5 P5
        go_wp2_with fail
        exact ⟨⟨k + 1, by omega, by go_num, _, HE1.out, HE2.out, Lib.hid ⟨P6.out, FW.out, S6.out⟩⟩, by simp [intOf]; omega⟩
      · go_wp2_with fail
        have ha0 : Since w.heap.size wo (wo.alloc (.cells #[.int .i64 ax, .int .i64 ay, .int .i64 az] 34)) := Since.of ((Keep.refl _ wo).alloc' _)
        obtain ⟨wa, hwa⟩ : ∃ wa, wo.alloc (.cells #[.int .i64 ax, .int .i64 ay, .int .i64 az] 34) = wa := ⟨_, rfl⟩
        have PA := Lib.hid (show IsSite wa p s from hwa ▸ HI.out.1.keep ((Keep.refl (fun _ => False) wo).alloc' _) id)
        rw [hwa] at ha0 ⊢
        have SA := Lib.hid (Keep.trans HI.out.2.2 ha0)
        clear hwa ha0
        have h5 := forget_any PA.out ay
        obtain ⟨c1, c2⟩ := forget_counts s ay
        have FW := Lib.hid ((forget_few HI.out.2.1 ay).mono (show (k : Int) ≤ ((k + 1 : Nat) : Int) by omega))
        obtain ⟨v5, s5, h5e⟩ : ∃ v5 s5, s.forget ay = (v5, s5) := ⟨_, _, rfl⟩
        rw [h5e] at h5 c1 c2 FW
        have H5 := Lib.hid h5
        clear h5 h5e
        ((with_reducible refine H5.out.mono ?_); rintro e w5 ⟨rfl, hs5, hk5⟩)
        have P5 := Lib.hid hs5; have S5 := Lib.hid (Keep.trans SA.out (since_at hk5 Z))
        have hc := counts_any hs5
        clear hs5 hk5 H5 SA PA x0 x1 x2
        simp only at c1 c2
        rw [c1, c2] at hc
        have HC := Lib.hid hc
        have HE1 := Lib.hid (show Value.int .i64 s.hits = .int .i64 s5.hits by rw [c1])
        have HE2 := Lib.hid (show Value.int .i64 (s.hits + s.misses) = .int .i64 (s5.hits + s5.misses) by rw [c1, c2])
        clear hc c1 c2
        go_wp2_with fail
        ((with_reducible refine HC.out.mono ?_); rintro e w6 ⟨rfl, k6, rfl⟩)
        have S6 := Lib.hid (Keep.trans S5.out (since_draw w.heap.size k6 w5))
        have P6 := Lib.hid (P5.out.keep (keep_drewN (fun _ => False) w5 k6) id)
        obtain ⟨w6, hw6⟩ : ∃ w6, w5.drewN k6 = w6 := ⟨_, rfl⟩
        rw [hw6] at S6 P6 ⊢
        clear hw6 HC S5 P5
        go_wp2_with fail
        exact ⟨⟨k + 1, by omega, by go_num, _, HE1.out, HE2.out, Lib.hid ⟨P6.out, FW.out, S6.out⟩⟩, by simp [intOf]; omega⟩
      · go_wp2_with fail
        have ha0 : Since w.heap.size wo (wo.alloc (.cells #[.int .i64 ax, .int .i64 ay, .int .i64 az] 34)) := Since.of ((Keep.refl _ wo).alloc' _)
        obtain ⟨wa, hwa⟩ : ∃ wa, wo.alloc (.cells #[.int .i64 ax, .int .i64 ay, .int .i64 az] 34) = wa := ⟨_, rfl⟩
        have PA := Lib.hid (show IsSite wa p s from hwa ▸ HI.out.1.keep ((Keep.refl (fun _ => False) wo).alloc' _) id)
        rw [hwa] at ha0 ⊢
        have SA := Lib.hid (Keep.trans HI.out.2.2 ha0)
        clear hwa ha0
        have h5 := find_any PA.out ay (HI.out.2.1.mono (by omega))
        obtain ⟨c1, c2⟩ := find_counts s ay
        have FW := Lib.hid (show (s.find ay).2.few (((k + 1 : Nat) : Int)) from (find_few HI.out.2.1 ay).mono (by omega))
        obtain ⟨⟨v5, b5⟩, s5, h5e⟩ : ∃ v5 s5, s.find ay = (v5, s5) := ⟨_, _, rfl⟩
        rw [h5e] at h5 c1 c2 FW
        have H5 := Lib.hid h5
        clear h5 h5e
        ((with_reducible refine H5.out.mono ?_); rintro e w5 ⟨rfl, hs5, hk5⟩)
        have P5 := Lib.hid hs5; have S5 := Lib.hid (Keep.trans SA.out (since_at hk5 Z))
        have hc := counts_any hs5
        clear hs5 hk5 H5 SA PA x0 x1 x2
        simp only at c1 c2
        cases b5 with
        | true =>
          simp only [if_true] at c1 c2
          rw [c1, c2] at hc
          have HC := Lib.hid hc
          have HE1 := Lib.hid (show Value.int .i64 (s.hits + 1) = .int .i64 s5.hits by rw [c1])
          have HE2 := Lib.hid (show Value.int .i64 (s.hits + s.misses + 1) = .int .i64 (s5.hits + s5.misses) by rw [c1, c2]; congr 1; omega)
          clear hc c1 c2
          have hb : (s.hits + 1 + s.misses != s.hits + s.misses + 1) = false := by simp; omega
          go_wp2_with fail
          ((with_reducible refine HC.out.mono ?_); rintro e w6 ⟨rfl, k6, rfl⟩)
          have S6 := Lib.hid (Keep.trans S5.out (since_draw w.heap.size k6 w5))
          have P6 := Lib.hid (P5.out.keep (keep_drewN (fun _ => False) w5 k6) id)
          obtain ⟨w6, hw6⟩ : ∃ w6, w5.drewN k6 = w6 := ⟨_, rfl⟩
          rw [hw6] at S6 P6 ⊢
          clear hw6 HC S5 P5
          go_wp2_with fail
          exact ⟨⟨k + 1, by omega, by go_num, _, HE1.out, HE2.out, Lib.hid ⟨P6.out, FW.out, S6.out⟩⟩, by simp [intOf]; omega⟩
        | false =>
          simp only [Bool.false_eq_true, if_false] at c1 c2
          rw [c1, c2] at hc
          have HC := Lib.hid hc
          have HE1 := Lib.hid (show Value.int .i64 (s.hits) = .int .i64 s5.hits by rw [c1])
          have HE2 := Lib.hid (show Value.int .i64 (s.hits + s.misses + 1) = .int .i64 (s5.hits + s5.misses) by rw [c1, c2]; congr 1; omega)
          clear hc c1 c2
          have hb : (s.hits + (s.misses + 1) != s.hits + s.misses + 1) = false := by simp; omega
          go_wp2_with fail
          ((with_reducible refine HC.out.mono ?_); rintro e w6 ⟨rfl, k6, rfl⟩)
          have S6 := Lib.hid (Keep.trans S5.out (since_draw w.heap.size k6 w5))
          have P6 := Lib.hid (P5.out.keep (keep_drewN (fun _ => False) w5 k6) id)
          obtain ⟨w6, hw6⟩ : ∃ w6, w5.drewN k6 = w6 := ⟨_, rfl⟩
          rw [hw6] at S6 P6 ⊢
          clear hw6 HC S5 P5
          go_wp2_with fail
          exact ⟨⟨k + 1, by omega, by go_num, _, HE1.out, HE2.out, Lib.hid ⟨P6.out, FW.out, S6.out⟩⟩, by simp [intOf]; omega⟩
      · go_wp2_with fail
        have ha0 : Since w.heap.size wo (wo.alloc (.cells #[.int .i64 ax, .int .i64 ay, .int .i64 az] 34)) := Since.of ((Keep.refl _ wo).alloc' _)
        obtain ⟨wa, hwa⟩ : ∃ wa, wo.alloc (.cells #[.int .i64 ax, .int .i64 ay, .int .i64 az] 34) = wa := ⟨_, rfl⟩
        have PA := Lib.hid (show IsSite wa p s from hwa ▸ HI.out.1.keep ((Keep.refl (fun _ => False) wo).alloc' _) id)
        rw [hwa] at ha0 ⊢
        have SA := Lib.hid (Keep.trans HI.out.2.2 ha0)
        clear hwa ha0
        have h5 := find_any PA.out ay (HI.out.2.1.mono (by omega))
        obtain ⟨c1, c2⟩ := find_counts s ay
        have FW := Lib.hid (show (s.find ay).2.few (((k + 1 : Nat) : Int)) from (find_few HI.out.2.1 ay).mono (by omega))
        obtain ⟨⟨v5, b5⟩, s5, h5e⟩ : ∃ v5 s5, s.find ay = (v5, s5) := ⟨_, _, rfl⟩
        rw [h5e] at h5 c1 c2 FW
        have H5 := Lib.hid h5
        clear h5 h5e
        ((with_reducible refine H5.out.mono ?_); rintro e w5 ⟨rfl, hs5, hk5⟩)
        have P5 := Lib.hid hs5; have S5 := Lib.hid (Keep.trans SA.out (since_at hk5 Z))
        have hc := counts_any hs5
        clear hs5 hk5 H5 SA PA x0 x1 x2
        simp only at c1 c2
        cases b5 with
        | true =>
          simp only [if_true] at c1 c2
          rw [c1, c2] at hc
          have HC := Lib.hid hc
          have HE1 := Lib.hid (show Value.int .i64 (s.hits + 1) = .int .i64 s5.hits by rw [c1])
          have HE2 := Lib.hid (show Value.int .i64 (s.hits + s.misses + 1) = .int .i64 (s5.hits + s5.misses) by rw [c1, c2]; congr 1; omega)
          clear hc c1 c2
          have hb : (s.hits + 1 + s.misses != s.hits + s.misses + 1) = false := by simp; omega
          go_wp2_with fail
          ((with_reducible refine HC.out.mono ?_); rintro e w6 ⟨rfl, k6, rfl⟩)
          have S6 := Lib.hid (Keep.trans S5.out (since_draw w.heap.size k6 w5))
          have P6 := Lib.hid (P5.out.keep (keep_drewN (fun _ => False) w5 k6) id)
          obtain ⟨w6, hw6⟩ : ∃ w6, w5.drewN k6 = w6 := ⟨_, rfl⟩
          rw [hw6] at S6 P6 ⊢
          clear hw6 HC S5 P5
          go_wp2_with fail
          exact ⟨⟨k + 1, by omega, by go_num, _, HE1.out, HE2.out, Lib.hid ⟨P6.out, FW.out, S6.out⟩⟩, by simp [intOf]; omega⟩
        | false =>
          simp only [Bool.false_eq_true, if_false] at c1 c2
          rw [c1, c2] at hc
          have HC := Lib.hid hc
          have HE1 := Lib.hid (show Value.int .i64 (s.hits) = .int .i64 s5.hits by rw [c1])
          have HE2 := Lib.hid (show Value.int .i64 (s.hits + s.misses + 1) = .int .i64 (s5.hits + s5.misses) by rw [c1, c2]; congr 1; omega)
          clear hc c1 c2
          have hb : (s.hits + (s.misses + 1) != s.hits + s.misses + 1) = false := by simp; omega
          go_wp2_with fail
          ((with_reducible refine HC.out.mono ?_); rintro e w6 ⟨rfl, k6, rfl⟩)
          have S6 := Lib.hid (Keep.trans S5.out (since_draw w.heap.size k6 w5))
          have P6 := Lib.hid (P5.out.keep (keep_drewN (fun _ => False) w5 k6) id)
          obtain ⟨w6, hw6⟩ : ∃ w6, w5.drewN k6 = w6 := ⟨_, rfl⟩
          rw [hw6] at S6 P6 ⊢
          clear hw6 HC S5 P5
          go_wp2_with fail
          exact ⟨⟨k + 1, by omega, by go_num, _, HE1.out, HE2.out, Lib.hid ⟨P6.out, FW.out, S6.out⟩⟩, by simp [intOf]; omega⟩
    · have hb : (k < n ∧ ¬ k < 60 ∧ decide (k < n) = true ∧ decide (k < 60) = false) ∨ decide (k < n) = false := by
        by_cases h1 : k < n
        · exact .inl ⟨h1, by omega, by simpa using h1, by simp; omega⟩
        · exact .inr (by simpa using h1)
      clear hlt
      rcases hb with ⟨hl1, hl2, b1, b2⟩ | b1
      all_goals (
        go_wp2_with fail
        go_ret
        exact ⟨rfl, below_since HI.out.2.2 rfl⟩)
set_option maxRecDepth 100000 in
theorem counts_lifted (os : Os) (started : os.Started) (H : Type) (enc : TypeId × Value → H) :
    ReturnsInHanded {} Tryd.checked os 6 .any (fun w args => (Rows.cacheCountsSpec.pre enc Tryd.prog Tryd.f6 Rows.cacheCountsRow.domain false w args ∧ laidMet Tryd.prog Rows.cacheCountsRow.laid w) ∧ sizedMet enc Tryd.prog Tryd.f6 (OpenSpec.ofChange Rows.cacheCountsSpec) false w args) (Rows.cacheCountsSpec.post enc Tryd.prog Tryd.f6 false true false false) := by
  refine law_lift_laid (C := Tryd.checked) (X := fun w _ => laidMet Tryd.prog tabs w) (fun _ _ _ hh h => h.of_heap hh) Tryd.own started (by kernel_rfl) Tryd.func6
    (ChangeSpec.witness_at (enc := enc) (C := Tryd.checked) (os := os) (X := fun w _ => laidMet Tryd.prog tabs w) false (laidWorld os) #[.slice none 0 0] 8 rfl (by kernel_rfl) (by kernel_rfl) (by kernel_rfl) (by kernel_rfl) (by kernel_rfl) (laidWorld_met os _))
    Tryd.laidOut (by kernel_rfl) rfl rfl Tryd.underlying4 ?_ ?_
  · intro ds hl
    match ds, hl with
    | [d1], _ => exact ⟨rfl, rfl, rfl⟩
  · intro W base args ds p hval0 hA0 hlt hsz0 hL
    have hval : ∀ (j : Nat) t v, Tryd.f6.params[j]? = some t → args[j]? = some v → Value.okWide Tryd.prog W .any base t v := hval0
    have hA : DataW.TrodAll enc Tryd.prog W 0 (fun _ => true) true Tryd.f6.params.toList args.toList ds p := hA0
    have hsz : (DataW.weightsEach Tryd.prog Tryd.f6.params.toList ds).all (· ≤ reachBytes) = true := hsz0
    rw [Tryd.params6] at hA hval hsz
    clear hA0 hval0 hsz0
    obtain ⟨v0, d0, rfl, rfl, h0⟩ := trodAll_one hA
    have hlt0 : ∀ x ∈ p, x.block < W.heap.size := hlt
    obtain ⟨Al, nl, cl, l, rfl, il⟩ := open_acts Tryd.underlying31 Tryd.underlying34 (by kernel_rfl) (by kernel_rfl) Tryd.underlying3 Tryd.underlying3 Tryd.underlying3 (hval 0 31 v0 rfl rfl) h0 hlt0
    exact counts_walk Al nl cl l W il (tb_of_laid hL)

/-- The row. -/
theorem counts_row : Rows.CacheCountsSaid :=
  OpenClaim.holds_of_wide 6 Tryd.f6 rfl rfl rfl rfl rfl rfl rfl ⟨rfl, rfl, rfl, rfl, rfl⟩ rfl rfl rfl rfl rfl (by kernel_rfl) Tryd.func6 (by kernel_rfl)
    (of_decide_eq_true (by kernel_rfl)) (by unfold Func.isWrapper; first | (rw [if_pos (by decide +kernel)]; kernel_rfl) | (rw [if_neg (by decide +kernel)]; exact ⟨rfl, rfl⟩))
    (fun os started H enc _ => counts_lifted os started H enc)
/-- The statement: the tied card. -/
theorem counts_holds : Rows.CacheCountsCardSaid :=
  Claim7.holds_tied_plain_at .later [] [.data, .data, .data] true (true, "dac5fa98be8ba01293bcc018d0cdd3b90fbf6db38275f6b49ccd14927eae94f6") false
    counts_row (fun _ h => by cases h) (by kernel_rfl) (fun _ h => by cases h) cacheCounts_row_tie rfl ⟨rfl, rfl⟩ (by kernel_rfl) rfl
    (fun f fn hf hfn => by
      obtain rfl : f = 6 := Option.some.inj ((show Tryd.prog.funcNamed "facsimile/facsimilelaw12.CacheCounts" = some 6 by kernel_rfl).symm.trans hf) |>.symm
      obtain rfl : fn = Tryd.f6 := (Option.some.inj (Tryd.func6.symm.trans hfn)).symm
      exact ⟨by kernel_rfl, fun j t ht => by
        have h := List.all_eq_true.1 (show (Tryd.f6.params.toList.all fun t => !Tryd.prog.wantsStandIn t) = true by kernel_rfl) t (List.mem_of_getElem? (by simpa using ht))
        exact (show Tryd.prog.wantsStandIn t = false by simpa using h)⟩)
    (by kernel_rfl)
#print axioms counts_holds
end Go.Proofs.YtdfmmgepapiamaaDoor
