/- Install: the walk of InstallRoom. -/
import Derived.Test.YtnhajhejkecihaaI14
namespace Go.Proofs.Ytnhajhejkecihaa
open Go.RowKit Go.Lib
set_option linter.unusedVariables false
set_option linter.unusedSimpArgs false

set_option maxRecDepth 100000 in
set_option maxHeartbeats 4000000 in
theorem room_any (w : World) (x : Nat) (hx : x < 65536) : Calls Try.prog 4 #[.int .u16 x] w fun e w' => e = .returned (.bool true) ∧ Since w.heap.size w w' := by
  have HS := Lib.hid (sanity_any w)
  have HN := Lib.hid (fun W : World => st_new W 3 (by omega))
  have hmk : ∀ (W : World) (L : Nat), L ≤ 1200 → (Instr.makeSlice 46 (.int .i64 (L : Int)) (.int .i64 (L : Int))).run Try.prog W = .ok (.slice (some ⟨W.heap.size, 0, none⟩) L L) (W.alloc (.cells (madeCells #[.int .u8 0] L) 5)) :=
    fun W L hL => run_make_row' 46 5 (.int .u8 0) 1 Try.bytes.ht Try.bytes.info rfl .i64 .i64 L (by omega) (by omega) W
  go_enter Try.func4, Try.ntmps4
  go_wp2_with fail
  ((with_reducible refine HS.out.mono ?_); rintro e w1 ⟨rfl, hs⟩)
  have H01 := Lib.hid hs
  clear hs HS
  go_wp2_with fail
  ((with_reducible refine (show Calls Try.prog _ #[.int .i64 3] w1 _ from HN.out w1).mono ?_); rintro e w2 ⟨p, rfl, s0⟩)
  have S0 := Lib.hid s0
  clear s0 HN
  go_upto_region 6 with (fail)
  obtain ⟨L, hL⟩ : ∃ L, 1 + x % 1200 = L := ⟨_, rfl⟩
  have hLL : 1 ≤ L ∧ L ≤ 1200 := by omega
  have hLi : 1 + (x : Int) % 1200 = (L : Int) := by omega
  rw [hLi]
  have hmk2 := fun W => hmk W L hLL.2
  have hrow : (w2.alloc (.cells (madeCells #[.int .u8 0] L) 5)).heap[w2.heap.size]? = some (.cells (madeCells #[.int .u8 0] L) 5 (0, 0)) := heap_alloc_new _ _
  have hcv : (convert 46 9 (.slice (some ⟨w2.heap.size, 0, none⟩) L L)).run Try.prog (w2.alloc (.cells (madeCells #[.int .u8 0] L) 5)) = .ok (.string (sb (List.replicate L 0))) (w2.alloc (.cells (madeCells #[.int .u8 0] L) 5)) := by
    have h := run_string_mem (w := w2.alloc (.cells (madeCells #[.int .u8 0] L) 5)) w2.heap.size 0 L (List.replicate L 0) (fun j hj => by
      rw [Nat.zero_add, blk_cell hrow, ← Array.getElem?_toList, toList_madeCells_one]
      have hjL : j < L := by simpa using hj
      simp [hjL])
    rw [List.length_replicate] at h
    exact h
  have S1 := Lib.hid (S0.out.quiet ((Keep.refl (fun _ => False) w2).alloc' (.cells (madeCells #[.int .u8 0] L) 5)))
  obtain ⟨W3, hW3⟩ : ∃ W3, w2.alloc (.cells (madeCells #[.int .u8 0] L) 5) = W3 := ⟨_, rfl⟩
  have hmk3 := hmk2 w2
  rw [hW3] at S1 hcv hmk3
  obtain ⟨b, hb⟩ : ∃ b : Bytes, List.replicate L 0 = b := ⟨_, rfl⟩
  have hbl : b.length = L := by rw [← hb]; simp
  rw [hb] at hcv
  have HB := Lib.hid hbl
  obtain ⟨sv, hsv⟩ : ∃ sv, sb b = sv := ⟨_, rfl⟩
  rw [hsv] at hcv
  have HSV := Lib.hid hsv
  have HLI := Lib.hid hLi
  clear hmk hmk2 hrow hW3 hb hsv hLi hL S0 hbl
  go_upto_region 9 with (fail)
  obtain ⟨k, hk⟩ : ∃ k, lns L = k := ⟨_, rfl⟩
  have hk0 : 1 ≤ k ∧ 16 * (k - 1) < L ∧ k ≤ 75 := by unfold lns at hk; omega
  have hki : ((L : Int) + 15) / 16 = (k : Int) := by unfold lns at hk; omega
  obtain ⟨F, hF⟩ : ∃ F, (if 256 / k < 16 then 256 / k else 16) = F := ⟨_, rfl⟩
  have hFi : (if (256 : Int) / (k : Int) < 16 then (256 : Int) / (k : Int) else 16) = (F : Int) := by
    have e : (256 : Int) / (k : Int) = ((256 / k : Nat) : Int) := by simp
    rw [e, ← hF]
    by_cases h1 : 256 / k < 16
    · rw [if_pos h1, if_pos (by omega)]
    · rw [if_neg h1, if_neg (by omega)]
      rfl
  have hFk : k * F ≤ 256 ∧ F ≤ 16 ∧ (F = 16 ∨ 256 < k * F + k) := by
    have h1 : k * (256 / k) ≤ 256 := Nat.mul_div_le 256 k
    have h2 : 256 < k * (256 / k) + k := by
      have := Nat.lt_mul_div_succ 256 (show 0 < k by omega)
      rw [Nat.mul_add, Nat.mul_one] at this
      exact this
    by_cases h3 : 256 / k < 16
    · rw [if_pos h3] at hF
      rw [hF] at h1 h2 h3
      exact ⟨h1, by omega, .inr h2⟩
    · rw [if_neg h3] at hF
      subst hF
      refine ⟨?_, Nat.le_refl _, .inl rfl⟩
      have : k * 16 ≤ k * (256 / k) := Nat.mul_le_mul_left k (by omega)
      omega
  rw [hki, hFi]
  have HK := Lib.hid (And.intro hk (And.intro hki hFi))
  have s2 := S1.out.more (.cells #[.int .i64 0, .int .i64 0, .string sv, .slice none 0 0, .slice none 0 0, .slice none 0 0, .int .i64 0, .int .i64 0, .slice none 0 0] 34)
  obtain ⟨W4, hW4⟩ : ∃ W4, W3.alloc (.cells #[.int .i64 0, .int .i64 0, .string sv, .slice none 0 0, .slice none 0 0, .slice none 0 0, .int .i64 0, .int .i64 0, .slice none 0 0] 34) = W4 := ⟨_, rfl⟩
  obtain ⟨mb, hmb⟩ : ∃ mb, W3.heap.size = mb := ⟨_, rfl⟩
  rw [hW4, hmb] at s2
  rw [hW4, hmb]
  obtain ⟨C, hC⟩ : ∃ C, [(mb, Obj.cells #[.int .i64 0, .int .i64 0, .string sv, .slice none 0 0, .slice none 0 0, .slice none 0 0, .int .i64 0, .int .i64 0, .slice none 0 0] 34 (0, 0))] = C := ⟨_, rfl⟩
  have HC : Hid ((mb, Obj.cells #[.int .i64 0, .int .i64 0, .string sv, .slice none 0 0, .slice none 0 0, .slice none 0 0, .int .i64 0, .int .i64 0, .slice none 0 0] 34 (0, 0)) ∈ C) := Lib.hid (by rw [← hC]; exact List.mem_singleton.2 rfl)
  rw [hC] at s2
  have S2 := Lib.hid s2
  have HMV : Hid (modV b MX.zero = .agg #[.int .i64 0, .int .i64 0, .string sv, .slice none 0 0, .slice none 0 0, .slice none 0 0, .int .i64 0, .int .i64 0, .slice none 0 0]) := Lib.hid (by rw [← HSV.out]; rfl)
  obtain ⟨n, hn⟩ : ∃ n, w1.heap.size = n := ⟨_, rfl⟩
  have HNN := Lib.hid hn
  rw [hn] at S2
  clear hW4 hmb hC s2 S1 hk hki hFi hF hmk3 hcv HLI hn
  go_wp2_with fail
  go_loopw [10] (fun i wr => ∃ j : Nat, j ≤ F ∧ i = .int .i64 (j : Int) ∧ Hid (ST n w1 p (rm b j) C wr)) (fun i _ => F + 1 - (intOf i).toNat)
  case atStart => exact ⟨0, Nat.zero_le _, rfl, S2⟩
  case round =>
    obtain ⟨j, hj, rfl, SJ⟩ := hrel
    obtain ⟨wo, rfl⟩ : ∃ wo : World, wo = wr := ⟨_, rfl⟩
    clear S2
    have dh : wo.heap[mb]? = some (.cells #[.int .i64 0, .int .i64 0, .string sv, .slice none 0 0, .slice none 0 0, .slice none 0 0, .int .i64 0, .int .i64 0, .slice none 0 0] 34 (0, 0)) := SJ.out.at_ HC.out
    by_cases hlt : j < F
    · have hb1 : decide (j < F) = true := by simpa using hlt
      have hkj : k * j + k ≤ 256 := by
        have : k * (j + 1) ≤ k * F := Nat.mul_le_mul_left k hlt
        rw [Nat.mul_succ] at this
        omega
      have hpl := rm_place b (by rw [HB.out]; omega) j
      rw [HB.out, HK.out.1, if_pos hkj] at hpl
      have hadd : Calls Try.prog 8 #[.pointer (some ⟨p, 0, none⟩), .agg #[.int .i64 0, .int .i64 0, .string sv, .slice none 0 0, .slice none 0 0, .slice none 0 0, .int .i64 0, .int .i64 0, .slice none 0 0]] wo fun e w' => e = .returned (.tuple #[.int .i64 (j : Int), .int .i64 0]) ∧ ST n w1 p (rm b (j + 1)) C w' := by
        have h1 := st_add SJ.out (b := b) MX.zero (by rw [HB.out]; omega) (by rw [rm_len]; omega) (a := k * j) (by rw [HB.out]; exact hpl) (by rw [rm_next]; omega)
        rw [HMV.out, rm_next] at h1
        have e : rm b (j + 1) = (rm b j).added b (k * j) := by
          show (rm b j).added b (lns b.length * j) = _
          rw [HB.out, HK.out.1]
        rw [e]
        exact h1
      have HA := Lib.hid hadd
      clear hadd hpl hkj
      go_wp2_with (refine wpList_load_row rfl 34 (.tmp 7) rfl mb rfl 34 _ (0, 0) _ dh Try.underlying34 rfl (by kernel_rfl) ?_)
      ((with_reducible refine HA.out.mono ?_); rintro e w' ⟨rfl, s3⟩)
      have S3 := Lib.hid s3
      clear HA s3 dh SJ
      go_wp2_with fail
      exact ⟨⟨j + 1, by omega, by go_num, S3⟩, by simp [intOf]; omega⟩
    · obtain rfl : j = F := by omega
      have hb1 : decide (j < j) = false := by simp
      have hadd : Calls Try.prog 8 #[.pointer (some ⟨p, 0, none⟩), .agg #[.int .i64 0, .int .i64 0, .string sv, .slice none 0 0, .slice none 0 0, .slice none 0 0, .int .i64 0, .int .i64 0, .slice none 0 0]] wo fun e w' => e = .returned (.tuple #[.int .i64 0, .int .i64 2]) ∧ ST n w1 p (rm b j) C w' := by
        rw [← HMV.out]
        by_cases h16 : j = 16
        · exact st_add_full SJ.out MX.zero (by rw [HB.out]; omega) (by rw [rm_len]; exact h16)
        · refine st_add_none SJ.out MX.zero (by rw [HB.out]; omega) (by rw [rm_len]; omega) ?_
          rw [rm_place b (by rw [HB.out]; omega) j, if_neg (by rw [HB.out, HK.out.1]; omega)]
      have HA := Lib.hid hadd
      clear hadd
      go_wp2_with (refine wpList_load_row rfl 34 (.tmp 7) rfl mb rfl 34 _ (0, 0) _ dh Try.underlying34 rfl (by kernel_rfl) ?_)
      ((with_reducible refine HA.out.mono ?_); rintro e w' ⟨rfl, s3⟩)
      have S3 := Lib.hid s3
      clear HA s3 dh SJ
      have hbp : 0 < b.length := by rw [HB.out]; omega
      have hbd : 0 ≤ 16 * (k : Int) * (j : Int) ∧ 16 * (k : Int) * (j : Int) ≤ 4096 ∧ ((16 * (256 - k * j) : Nat) : Int) = 4096 - 16 * (k : Int) * (j : Int) := by
        have e : 16 * (k : Int) * (j : Int) = 16 * ((k * j : Nat) : Int) := by rw [Int.natCast_mul, Int.mul_assoc]
        rw [e]
        obtain ⟨P, hP⟩ : ∃ P, k * j = P := ⟨_, rfl⟩
        rw [hP] at hFk ⊢
        omega
      have hfr : ((16 * frees (takenB (rm b j).all) 256 : Nat) : Int) = 4096 - 16 * (k : Int) * (j : Int) := by
        rw [show takenB (rm b j).all = fun i => decide (i < lns b.length * j) from funext (rm_taken b hbp j), frees_prefix, HB.out, HK.out.1]
        exact hbd.2.2
      have hfr2 : ((16 * frees (takenB (((dr (rm b j) j).passed 0).passed 1).all) 256 : Nat) : Int) = 4096 - 16 * (k : Int) * (j : Int) := by
        rw [show takenB (((dr (rm b j) j).passed 0).passed 1).all = fun i => decide (i < lns b.length * j) from funext (room_end b hbp j).1, frees_prefix, HB.out, HK.out.1]
        exact hbd.2.2
      have hnil := (room_end b hbp j).2
      have HF1 := Lib.hid hfr
      have HF2 := Lib.hid hfr2
      have HNIL := Lib.hid hnil
      obtain ⟨hbd1, hbd2, _⟩ := hbd
      have HI := Lib.hid (show (dr (rm b j) j).inn = [-1, -1, -1] by rw [dr_inn, rm_inn])
      clear hfr hfr2 hnil hbp hb1
      go_wp2_with fail
      ((with_reducible refine (st_free S3.out).mono ?_); rintro e w5 ⟨rfl, s4⟩)
      rw [HF1.out]
      have S4 : Hid (ST n w1 p (dr (rm b j) 0) C w5) := Lib.hid (by rw [dr_zero]; exact s4)
      clear S3 s4
      go_wp2_with fail
      go_loopw [15] (fun i wr => ∃ q : Nat, q ≤ j ∧ i = .int .i64 (q : Int) ∧ Hid (ST n w1 p (dr (rm b j) q) C wr)) (fun i _ => j + 1 - (intOf i).toNat)
      case atStart => exact ⟨0, Nat.zero_le _, rfl, S4⟩
      case round =>
        obtain ⟨q, hq, rfl, SQ⟩ := hrel
        obtain ⟨wq, rfl⟩ : ∃ wq : World, wq = wr := ⟨_, rfl⟩
        clear S4
        by_cases hlq : q < j
        · have hb1 : decide (q < j) = true := by simpa using hlq
          have hd := st_drop SQ.out (q : Int) (dr_find b hlq)
          rw [dr_step b hlq] at hd
          have HD := Lib.hid hd
          clear hd
          go_wp2_with fail
          ((with_reducible refine HD.out.mono ?_); rintro e w' ⟨rfl, s5⟩)
          have S5 := Lib.hid s5
          clear HD s5 SQ
          go_wp2_with fail
          exact ⟨⟨q + 1, by omega, by go_num, S5⟩, by simp [intOf]; omega⟩
        · obtain rfl : q = j := by omega
          have hb1 : decide (q < q) = false := by simp
          go_wp2_with fail
          ((refine (st_safe SQ.out (c := 0) (by rw [HI.out]; decide) (by rw [HI.out]; decide) : Calls Try.prog _ #[.pointer (some ⟨p, 0, none⟩), .int .i64 0] _ _).mono ?_); rintro e w6 ⟨rfl, s5⟩)
          have S5 := Lib.hid s5
          clear SQ s5
          go_wp2_with fail
          ((refine (st_safe S5.out (c := 1) (by rw [passed_inn, HI.out]; decide) (by rw [passed_inn, HI.out]; decide) : Calls Try.prog _ #[.pointer (some ⟨p, 0, none⟩), .int .i64 1] _ _).mono ?_); rintro e w7 ⟨rfl, s5⟩)
          have S6 := Lib.hid s5
          clear S5 s5
          go_wp2_with fail
          ((with_reducible refine (st_free S6.out).mono ?_); rintro e w8 ⟨rfl, s5⟩)
          rw [HF2.out]
          have S7 := Lib.hid s5
          clear S6 s5
          go_wp2_with fail
          ((refine (st_safe S7.out (c := 2) (by rw [passed_inn, passed_inn, HI.out]; decide) (by rw [passed_inn, passed_inn, HI.out]; decide) : Calls Try.prog _ #[.pointer (some ⟨p, 0, none⟩), .int .i64 2] _ _).mono ?_); rintro e w9 ⟨rfl, s5⟩)
          have S8 := Lib.hid s5
          clear S7 s5
          go_wp2_with fail
          have hf8 := st_free S8.out
          have hl8 := fun W (h : ST n w1 p ((((dr (rm b q) q).passed 0).passed 1).passed 2) C W) => st_live h
          rw [HNIL.out] at hf8 hl8
          ((refine (hf8 : Calls Try.prog _ #[.pointer (some ⟨p, 0, none⟩)] _ _).mono ?_); rintro e w10 ⟨rfl, s5⟩)
          rw [show ((16 * frees (takenB []) 256 : Nat) : Int) = 4096 from by decide +kernel]
          have HL := Lib.hid (hl8 _ s5)
          clear S8 s5 hf8 hl8
          go_wp2_with fail
          ((refine (HL.out : Calls Try.prog _ #[.pointer (some ⟨p, 0, none⟩)] _ _).mono ?_); rintro e w11 ⟨⟨A, c, rfl, hrow⟩, s5⟩)
          have hl0 : (liveL ([] : List ME)).length = 0 := rfl
          have HE := Lib.hid (show Since w.heap.size w w11 from Keep.trans H01.out (Keep.mono s5.since (fun i hi => by rw [← HNN.out] at hi; exact Nat.le_trans H01.out.size hi)))
          clear HL s5 hrow
          go_wp2_with fail
          go_ret
          exact ⟨rfl, HE.out⟩
end Go.Proofs.Ytnhajhejkecihaa
