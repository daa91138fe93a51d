/- RegsMore: the walk. -/
import Derived.Test.YtnbpgipbfejllaaDoorMG54
import Derived.Test.YtnbpgipbfejllaaDoorMG59
import Derived.Test.YtnbpgipbfejllaaDoorMG43
namespace Go.Proofs.YtnbpgipbfejllaaDoor
open Go.RowKit Go.Lib
set_option linter.unusedVariables false
set_option linter.unusedSimpArgs false

theorem stepP_ok {S : List (Int × Int)} {on : Nat → Bool} {n : Int} {b : Bool} {N k : Nat} {s : List Int × Int} (hN : N ≤ 60) (hn : 1 ≤ n) (hk : k < N) (h : AInv on N b k s.1) (h0 : 0 ≤ s.2 ∧ s.2 ≤ 64) : AInv on N b (k + 1) (stepP S on n b s k).1 ∧ 0 ≤ (stepP S on n b s k).2 ∧ (stepP S on n b s k).2 ≤ 64 := by
  refine ⟨h.step hN hk S n, ?_⟩
  have hf := (h.free hN S k s.1.length).2.2
  have hc := List.countP_le_length (p := fun x : Int => decide (0 ≤ x)) (l := s.1)
  have hl := h.len
  unfold stepP
  split
  · exact h0
  · dsimp only
    omega
theorem runP_ok {S : List (Int × Int)} {on : Nat → Bool} {n : Int} {b : Bool} {N : Nat} {s : List Int × Int} (hN : N ≤ 60) (hn : 1 ≤ n) (h : AInv on N b 0 s.1) (h0 : 0 ≤ s.2 ∧ s.2 ≤ 64) : ∀ k, k ≤ N → AInv on N b k (runP S on n b s k).1 ∧ 0 ≤ (runP S on n b s k).2 ∧ (runP S on n b s k).2 ≤ 64
  | 0, _ => ⟨h, h0⟩
  | k + 1, hk => by
    obtain ⟨a, c⟩ := runP_ok hN hn h h0 k (by omega)
    exact stepP_ok hN hn (by omega) a c
theorem allocP_ok (S : List (Int × Int)) (on : Nat → Bool) {n : Int} {N : Nat} (hN : N ≤ 60) (hn : 1 ≤ n) : (allocP S on n N).1.length = N ∧ 0 ≤ (allocP S on n N).2 ∧ (allocP S on n N).2 ≤ 64 := by
  obtain ⟨a, c⟩ := runP_ok (S := S) hN hn (AInv.start on N) (s := (List.replicate N (-1), 0)) ⟨by show (0 : Int) ≤ 0; omega, by show (0 : Int) ≤ 64; omega⟩ N (Nat.le_refl _)
  obtain ⟨a2, c2⟩ := runP_ok (S := S) hN hn a.second c N (Nat.le_refl _)
  exact ⟨a2.len, c2⟩
set_option maxRecDepth 100000 in
set_option maxHeartbeats 16000000 in
theorem morelaw_any (w : World) (hn : NB w) (ht : TBW w) {A : Option Addr} {nl cl : Nat} {xs : List Int} (hA : IntsAt w A nl xs) (hnl : nl ≤ 140737488351232) (once : Int) (n : Nat) (hn2 : n < 256) (xn : Nat) (hxn : xn < 256) :
    Calls Tryd.prog 7 #[.agg #[.slice A nl cl, .int .i64 once, .int .u8 (n : Int)], .int .u8 (xn : Int)] w fun e w' => e = .returned (.bool true) ∧ Since w.heap.size w w' := by
  have HNB := Lib.hid hn
  have HTB := Lib.hid ht
  have HP1 := Lib.hid ht.pos
  have HK0 := Lib.hid ((Keep.refl (fun _ => False) w).alloc' (.cells #[.slice A nl cl, .int .i64 once, .int .u8 (n : Int)] 24))
  have HB0 := Lib.hid (heap_alloc_new w (.cells #[.slice A nl cl, .int .i64 once, .int .u8 (n : Int)] 24))
  have HPA := Lib.hid (fun W (hk : Since w.heap.size w W) => parts_any W (cl := cl) (cells_since hA hk) hnl once n hn2)
  obtain ⟨kn, hkn⟩ : ∃ kn : Int, 1 + ((n % 16 : Nat) : Int) = kn := ⟨_, rfl⟩
  have HKN := Lib.hid (show 1 ≤ kn ∧ kn ≤ 16 from by have := Nat.mod_lt n (show 0 < 16 by decide); omega)
  rw [hkn] at HPA
  have HSN := Lib.hid (sanity_any (w.alloc (.cells #[.slice A nl cl, .int .i64 once, .int .u8 (n : Int)] 24)) (hn.keep HK0.out id) (ht.keep HK0.out id))
  clear hn ht hA hnl hn2 hkn
  go_enter Tryd.func7, Tryd.ntmps7
  go_upto_region 1 with (fail)
  obtain ⟨w1, hw1⟩ : ∃ V : World, w.alloc (.cells #[.slice A nl cl, .int .i64 once, .int .u8 (n : Int)] 24) = V := ⟨_, rfl⟩
  obtain ⟨q, hq⟩ : ∃ q, w.heap.size = q := ⟨_, rfl⟩
  have HSZ := Lib.hid (show w1.heap.size = q + 1 by rw [← hw1, ← hq]; simp)
  rw [hw1] at HK0 HB0 HSN
  rw [hq] at HB0
  rw [hw1, hq]
  have HQ := Lib.hid hq
  clear hw1 hq
  go_wp2_with fail
  ((with_reducible refine HSN.out.mono ?_); rintro ee w2 ⟨rfl, hk2⟩)
  have HK2 := Lib.hid (show Since w.heap.size w w2 from Keep.trans (Since.of HK0.out) (Since.mono hk2 HK0.out.size))
  have hb2 := (hk2.block q (by have := HSZ.out; omega) (by have := HSZ.out; omega)).trans HB0.out
  have HPT := Lib.hid (HPA.out w2 HK2.out)
  have c0 := (blk_cell hb2 0).trans rfl
  have c1 := (blk_cell hb2 1).trans rfl
  have c2 := (blk_cell hb2 2).trans rfl
  clear hk2 hb2 HSN HPA
  go_wp2_with fail
  ((with_reducible refine HPT.out.mono ?_); rintro ee w3 ⟨v, P, T, rfl, hR, hta, hk3⟩)
  obtain ⟨A, ca, E, ce, R, X, rfl, hta2⟩ := hta.opened
  obtain ⟨N, hN⟩ : ∃ N, T.ins.length = N := ⟨_, rfl⟩
  obtain ⟨M, hM⟩ : ∃ M, T.exits.length = M := ⟨_, rfl⟩
  have HR := Lib.hid hR
  have HTA := Lib.hid hta2
  have HK3 := Lib.hid (Keep.trans HK2.out (Since.mono hk3 HK2.out.size))
  have HN := Lib.hid hN
  have HMM := Lib.hid hM
  have hfew := hR.few
  have hpar := hR.par
  unfold trV
  rw [hN] at hfew hpar
  rw [hN, hM]
  clear hR hta hta2 hk3 hN hM HPT c0 c1 c2
  go_upto_region 3 with (fail)
  have hk4 := (Keep.refl (fun _ => False) w3).alloc' (.cells #[.int .i64 T.pf, .int .i64 T.pl, .slice A N ca, .slice E M ce] 31)
  have hb4 := heap_alloc_new w3 (.cells #[.int .i64 T.pf, .int .i64 T.pl, .slice A N ca, .slice E M ce] 31)
  obtain ⟨w4, hw4⟩ : ∃ V : World, w3.alloc (.cells #[.int .i64 T.pf, .int .i64 T.pl, .slice A N ca, .slice E M ce] 31) = V := ⟨_, rfl⟩
  obtain ⟨q4, hq4⟩ : ∃ q4, w3.heap.size = q4 := ⟨_, rfl⟩
  rw [hw4] at hk4 hb4
  rw [hq4] at hb4
  rw [hw4, hq4]
  have HB4 := Lib.hid hb4
  have HT4 := Lib.hid (HTA.out.quiet hk4)
  have HK4 := Lib.hid (Keep.trans HK3.out (Since.of hk4))
  have hk1 := HKN.out
  obtain ⟨xm, hxm⟩ : ∃ xm, xn % 16 = xm := ⟨_, rfl⟩
  have hxm2 : xm < 16 := by have := Nat.mod_lt xn (show 0 < 16 by decide); omega
  have hx1 : (xn : Int).tmod 16 = (xm : Int) := by rw [Int.tmod_eq_emod_of_nonneg (by omega)]; omega
  have hx2 : IntKind.i64.wrap (xm : Int) = (xm : Int) := by rw [IntKind.wrap_i64]; omega
  have hx3 : IntKind.i64.wrap (kn + (xm : Int)) = kn + (xm : Int) := by rw [IntKind.wrap_i64]; omega
  obtain ⟨km, hkm⟩ : ∃ km : Int, min (kn + (xm : Int)) 16 = km := ⟨_, rfl⟩
  have hk2 : kn ≤ km ∧ km ≤ 16 := by omega
  have hmin : ∀ V, (Builtin.min_ #[3, 3] 3 #[.int .i64 (kn + (xm : Int)), .int .i64 16]).run Tryd.prog V = .ok (.int .i64 km) V := fun V => by rw [run_min2, hkm]
  have HAK := Lib.hid (allocP_ok T.spans T.on (n := kn) hfew hk1.1)
  have HMS := Lib.hid (more_stack T.spans T.on N kn km (by omega) hk2.1)
  obtain ⟨⟨l, st⟩, hst⟩ : ∃ s, allocP T.spans T.on kn N = s := ⟨_, rfl⟩
  obtain ⟨⟨l2, st2⟩, hst2⟩ : ∃ s, allocP T.spans T.on km N = s := ⟨_, rfl⟩
  rw [hst] at HAK HMS
  rw [hst2] at HMS
  have HA1 := Lib.hid (show ∀ W, Since w.heap.size w W → TA W A ca E ce R X T → Calls Tryd.prog 12 #[.agg #[.int .i64 T.pf, .int .i64 T.pl, .slice A N ca, .slice E M ce], .int .i64 kn] W (fun e w' => ∃ g, e = .returned (.tuple #[.agg #[.int .i64 kn, .int .i64 st, .slice (some ⟨g, 0, none⟩) N N], .int .i64 0]) ∧ w'.heap[g]? = some (.cells (ints l).toArray 3 (0, 0)) ∧ W.heap.size ≤ g ∧ Since W.heap.size W w') from fun W hk hT => by
    have h9 := alloc_any hT HR.out (HNB.out.since hk HNB.out.pos) (HTB.out.since hk HP1.out) kn hk1.1 hk1.2
    unfold trV at h9
    rw [HN.out, HMM.out, hst] at h9
    exact h9)
  have HA2 := Lib.hid (show ∀ W, Since w.heap.size w W → TA W A ca E ce R X T → Calls Tryd.prog 12 #[.agg #[.int .i64 T.pf, .int .i64 T.pl, .slice A N ca, .slice E M ce], .int .i64 km] W (fun e w' => ∃ g, e = .returned (.tuple #[.agg #[.int .i64 km, .int .i64 st2, .slice (some ⟨g, 0, none⟩) N N], .int .i64 0]) ∧ w'.heap[g]? = some (.cells (ints l2).toArray 3 (0, 0)) ∧ W.heap.size ≤ g ∧ Since W.heap.size W w') from fun W hk hT => by
    have h9 := alloc_any hT HR.out (HNB.out.since hk HNB.out.pos) (HTB.out.since hk HP1.out) km (by omega) hk2.2
    unfold trV at h9
    rw [HN.out, HMM.out, hst2] at h9
    exact h9)
  obtain ⟨hll, hs0, hs64⟩ := HAK.out
  obtain ⟨hl12, hst12⟩ := HMS.out
  dsimp only at hll hs0 hs64 hl12 hst12
  subst hl12
  have hw1 : IntKind.i64.wrap (km - kn) = km - kn := by rw [IntKind.wrap_i64]; omega
  have hw2 : IntKind.i64.wrap (st - (km - kn)) = st - (km - kn) := by rw [IntKind.wrap_i64]; omega
  have hmax : ∀ V, (Builtin.max_ #[3, 3] 3 #[.int .i64 0, .int .i64 (st - (km - kn))]).run Tryd.prog V = .ok (.int .i64 st2) V := fun V => by rw [run_max2, hst12]
  have HLL := Lib.hid hll
  have hk1a := hk1.1
  have hk1b := hk1.2
  have d0 := (blk_cell hb4 0).trans rfl
  have d1 := (blk_cell hb4 1).trans rfl
  have d2 := (blk_cell hb4 2).trans rfl
  have d3 := (blk_cell hb4 3).trans rfl
  clear hk4 hb4 hw4 hq4 HTA hst hst2 HAK HMS hkm hxm hst12 hll hs0 hs64 hk1 hk2
  go_wp2_with fail
  ((with_reducible refine (HA1.out _ HK4.out HT4.out).mono ?_); rintro ee w5 ⟨gA, rfl, hgA, _, hk5⟩)
  have HA5 := Lib.hid hgA
  have HK5 := Lib.hid (Keep.trans HK4.out (Since.mono hk5 HK4.out.size))
  have HB5 := Lib.hid ((hk5.block q4 (blk_lt HB4.out) (Nat.not_le_of_lt (blk_lt HB4.out))).trans HB4.out)
  have HT5 := Lib.hid (HT4.out.since hk5)
  clear hgA hk5 d0 d1 d2 d3
  go_upto_region 5 with (fail)
  have hk6 := (Keep.refl (fun _ => False) w5).alloc' (.cells #[.int .i64 kn, .int .i64 st, .slice (some ⟨gA, 0, none⟩) N N] 36)
  have hb6 := heap_alloc_new w5 (.cells #[.int .i64 kn, .int .i64 st, .slice (some ⟨gA, 0, none⟩) N N] 36)
  obtain ⟨w6, hw6⟩ : ∃ V : World, w5.alloc (.cells #[.int .i64 kn, .int .i64 st, .slice (some ⟨gA, 0, none⟩) N N] 36) = V := ⟨_, rfl⟩
  obtain ⟨q6, hq6⟩ : ∃ q6, w5.heap.size = q6 := ⟨_, rfl⟩
  rw [hw6] at hk6 hb6
  rw [hq6] at hb6
  rw [hw6, hq6]
  have HB6 := Lib.hid hb6
  have HK6 := Lib.hid (Keep.trans HK5.out (Since.of hk6))
  have HB46 := Lib.hid ((hk6.block q4 (blk_lt HB5.out) id).trans HB5.out)
  have HA6 := Lib.hid ((hk6.block gA (blk_lt HA5.out) id).trans HA5.out)
  have HT6 := Lib.hid (HT5.out.quiet hk6)
  have d0 := (blk_cell HB46.out 0).trans rfl
  have d1 := (blk_cell HB46.out 1).trans rfl
  have d2 := (blk_cell HB46.out 2).trans rfl
  have d3 := (blk_cell HB46.out 3).trans rfl
  clear hk6 hb6 hw6 hq6
  go_wp2_with fail
  ((with_reducible refine (HA2.out _ HK6.out HT6.out).mono ?_); rintro ee w7 ⟨gB, rfl, hgB, _, hk7⟩)
  have HB7 := Lib.hid hgB
  have HK7 := Lib.hid (Keep.trans HK6.out (Since.mono hk7 HK6.out.size))
  have HB67 := Lib.hid ((hk7.block q6 (blk_lt HB6.out) (Nat.not_le_of_lt (blk_lt HB6.out))).trans HB6.out)
  have HA7 := Lib.hid ((hk7.block gA (blk_lt HA6.out) (Nat.not_le_of_lt (blk_lt HA6.out))).trans HA6.out)
  clear hgB hk7 d0 d1 d2 d3
  go_upto_region 6 with (fail)
  have hk8 := (Keep.refl (fun _ => False) w7).alloc' (.cells #[.int .i64 km, .int .i64 st2, .slice (some ⟨gB, 0, none⟩) N N] 36)
  have hb8 := heap_alloc_new w7 (.cells #[.int .i64 km, .int .i64 st2, .slice (some ⟨gB, 0, none⟩) N N] 36)
  obtain ⟨w8, hw8⟩ : ∃ V : World, w7.alloc (.cells #[.int .i64 km, .int .i64 st2, .slice (some ⟨gB, 0, none⟩) N N] 36) = V := ⟨_, rfl⟩
  obtain ⟨q8, hq8⟩ : ∃ q8, w7.heap.size = q8 := ⟨_, rfl⟩
  rw [hw8] at hk8 hb8
  rw [hq8] at hb8
  rw [hw8, hq8]
  have HB8 := Lib.hid hb8
  have HK8 := Lib.hid (Keep.trans HK7.out (Since.of hk8))
  have HB68 := Lib.hid ((hk8.block q6 (blk_lt HB67.out) id).trans HB67.out)
  have HA8 := Lib.hid ((hk8.block gA (blk_lt HA7.out) id).trans HA7.out)
  have HB78 := Lib.hid ((hk8.block gB (blk_lt HB7.out) id).trans HB7.out)
  have hil : (ints l).length = N := by unfold ints; rw [List.length_map, HLL.out]
  have HIN := Lib.hid (ints_same (w := w8) (A1 := some ⟨gA, 0, none⟩) (A2 := some ⟨gB, 0, none⟩) (n := N) (c1 := N) (c2 := N) (l := l) (by have h9 := (Lies.blk HA8.out (by rw [hil]; omega)).1; rw [hil] at h9; exact h9) (by have h9 := (Lies.blk HB78.out (by rw [hil]; omega)).1; rw [hil] at h9; exact h9))
  have a2 := (blk_cell HB68.out 2).trans rfl
  have b2 := (blk_cell hb8 2).trans rfl
  clear hk8 hb8 hw8 hq8 hil
  go_wp2_with fail
  ((with_reducible refine HIN.out.mono ?_); rintro ee w9 ⟨rfl, hk9⟩)
  have HK9 := Lib.hid (Keep.trans HK8.out (Since.of hk9))
  have a1 := (blk_cell ((hk9.block q6 (blk_lt HB68.out) id).trans HB68.out) 1).trans rfl
  have b1 := (blk_cell ((hk9.block q8 (blk_lt HB8.out) id).trans HB8.out) 1).trans rfl
  clear a2 b2 hk9
  go_wp2_with fail
  go_ret
  exact ⟨rfl, HK9.out⟩
end Go.Proofs.YtnbpgipbfejllaaDoor
