/- Install: Add. -/
import Derived.Test.YtnhajhejkecihaaI7
namespace Go.Proofs.Ytnhajhejkecihaa
open Go.RowKit Go.Lib
set_option linter.unusedVariables false
set_option linter.unusedSimpArgs false

/-- The value of a module. -/
def modV (b : Bytes) (x : MX) : Value := .agg (mcells b x).toArray
/-- A store while Add goes. -/
theorem seek_round (t : Nat → Bool) (L f k run : Nat) : seek t L (f + 1) k run = if (if t k then 0 else run + 1) * 16 < L then seek t L f (k + 1) (if t k then 0 else run + 1) else some (k + 1 - (if t k then 0 else run + 1)) := rfl
set_option maxRecDepth 100000 in
set_option maxHeartbeats 4000000 in
theorem add_none {n : Nat} {w : World} {p : Nat} {r : SR} {s : MS} (h : IsStore n w p r s) {b : Bytes} (x : MX) (hb : 0 < b.length ∧ b.length ≤ 4096) (hf : s.all.length < 16) (hp : s.place b.length = none) :
    Calls Try.prog 8 #[.pointer (some ⟨p, 0, none⟩), modV b x] w fun e w' => e = .returned (.tuple #[.int .i64 0, .int .i64 2]) ∧ Since w.heap.size w w' := by
  have H := Lib.hid h
  have c2 := h.c2
  obtain ⟨N, hNN⟩ : ∃ N, s.all.length = N := ⟨_, rfl⟩
  rw [hNN] at c2 hf
  obtain ⟨L, hL⟩ : ∃ L, b.length = L := ⟨_, rfl⟩
  have hss : (sb b).size = L := by rw [sb_size, hL]
  obtain ⟨sv, hsv⟩ : ∃ sv, sb b = sv := ⟨_, rfl⟩
  rw [hL] at hb hp
  rw [hsv] at hss
  have HPL := Lib.hid hp
  have bL0 : ¬ L = 0 := by omega
  have bL1 : decide ((4096 : Int) < (L : Int)) = false := by simp; omega
  have bL2 : ¬ 4096 < L := by omega
  have bN : decide ((16 : Int) ≤ (N : Int)) = false := by simp; omega
  have bN2 : ¬ 16 ≤ N := by omega
  unfold modV mcells
  rw [hsv]
  have HNN := Lib.hid hNN
  clear h hp hNN hL hsv
  have k0 := (Keep.refl (fun _ => False) w).alloc' (.cells #[x.x0, x.x1, .string sv, x.x2, x.x3, x.x4, x.x5, x.x6, x.x7] 34)
  have H0 := Lib.hid (And.intro (H.out.quiet k0) (And.intro k0 (heap_alloc_new w (.cells #[x.x0, x.x1, .string sv, x.x2, x.x3, x.x4, x.x5, x.x6, x.x7] 34))))
  clear k0
  go_enter Try.func8, Try.ntmps8
  go_upto_region 1 with (fail)
  obtain ⟨W1, hW1⟩ : ∃ W1, w.alloc (.cells #[x.x0, x.x1, .string sv, x.x2, x.x3, x.x4, x.x5, x.x6, x.x7] 34) = W1 := ⟨_, rfl⟩
  obtain ⟨mb, hmb⟩ : ∃ mb, w.heap.size = mb := ⟨_, rfl⟩
  have HMB := Lib.hid hmb
  rw [hW1, hmb] at H0
  rw [hW1, hmb]
  clear hW1 hmb c2
  have HC := Lib.hid (closed_any H0.out.1)
  have c2 : W1.cell? ⟨p, 2, none⟩ = some (.slice r.A N r.ac) := by have := H0.out.1.c2; rwa [HNN.out] at this
  have m2 : W1.cell? ⟨mb, 2, none⟩ = some (.string sv) := (blk_cell H0.out.2.2 2).trans rfl
  have HT := Lib.hid (taken_any H0.out.1)
  obtain ⟨P, hP⟩ : ∃ P, takenB s.all = P := ⟨_, rfl⟩
  rw [hP] at HT
  have HPP := Lib.hid hP
  clear hP
  have hzv : ∀ W, (zeroValue 61).run Try.prog W = .ok (.agg (tk fun _ => false).toArray) W := fun W => by kernel_rfl
  go_wp2_with fail
  ((with_reducible refine HC.out.mono ?_); rintro e w' ⟨rfl, rfl⟩)
  clear HC
  go_wp2_with fail
  ((with_reducible refine HT.out.mono ?_); rintro e w2 ⟨rfl, hk2⟩)
  have K2 := Lib.hid hk2
  clear hk2 HT c2 m2
  go_wp2_with (first | (refine wpList_store_row rfl 61 (.tmp 6) (.tmp 33) rfl w2.heap.size 61 (tk fun _ => false).toArray (tk P).toArray rfl rfl (by exact heap_alloc_new _ _) (tk_info _) (by rw [List.size_toArray, List.size_toArray, tk_length, tk_length]) (tk_one _) ?_) | (refine wpList_load_row rfl 61 (.tmp 6) rfl w2.heap.size rfl 61 _ (0, 0) _ (by exact setRow_heap _ _ _ _ _ _ (heap_alloc_new _ _)) Try.underlying61 rfl (tk_info _) ?_))
  have k3 : Since W1.heap.size W1 ((w2.alloc (.cells (tk fun _ => false).toArray 61)).setRow w2.heap.size (tk P).toArray) :=
    Keep.trans (Keep.trans K2.out (Since.of ((Keep.refl (fun _ => False) w2).alloc' _))) (Keep.mono setRow_keep (fun i hi => by rw [hi]; exact K2.out.size))
  obtain ⟨W3, hW3⟩ : ∃ W3, (w2.alloc (.cells (tk fun _ => false).toArray 61)).setRow w2.heap.size (tk P).toArray = W3 := ⟨_, rfl⟩
  rw [hW3] at k3
  rw [hW3]
  have K3 := Lib.hid k3
  have m2 : W3.cell? ⟨mb, 2, none⟩ = some (.string sv) := (blk_cell ((k3.block mb (blk_lt H0.out.2.2) (by have := blk_lt H0.out.2.2; omega)).trans H0.out.2.2) 2).trans rfl
  obtain ⟨tb, htb⟩ : ∃ tb, w2.heap.size = tb := ⟨_, rfl⟩
  rw [htb]
  obtain ⟨T, hT⟩ : ∃ T, tk P = T := ⟨_, rfl⟩
  have HTT := Lib.hid hT
  rw [hT]
  clear hT hW3 k3 hzv htb K2
  go_loop [7, 35] (fun m i => ∃ k q : Nat, (k ≤ 256 ∧ q ≤ k ∧ q * 16 < L) ∧ i = .int .i64 (k : Int) ∧ m = .int .i64 (q : Int) ∧ Hid (seek P L (256 - k) k q = none)) (fun _ i => 256 + 1 - (intOf i).toNat)
  case atStart => exact ⟨0, 0, by omega, rfl, rfl, Lib.hid (by have := HPL.out; unfold MS.place at this; rw [HPP.out] at this; exact this)⟩
  case round =>
    obtain ⟨k, q, hk, rfl, rfl, HS⟩ := hrel
    by_cases hlt : k < 256
    · have hb1 : decide ((k : Int) < 256) = true := by simp; omega
      have hki : (k : Int) < 256 := by omega
      have hix : ∀ W, (Instr.index 61 (.agg T.toArray) (.int .i64 (k : Int))).run Try.prog W = .ok (.bool (P k)) W := fun W => by rw [← HTT.out]; exact run_index_tk P hlt W
      have hsk := HS.out
      rw [show 256 - k = (256 - (k + 1)) + 1 by omega, seek_round] at hsk
      obtain ⟨d, hd⟩ : ∃ d, P k = d := ⟨_, rfl⟩
      rw [hd] at hix hsk
      clear hd HS
      cases d with
      | true =>
        simp only [if_true] at hsk
        rw [if_pos (by omega)] at hsk
        have HS := Lib.hid hsk
        have hz : decide ((0 : Int) * 16 < (L : Int)) = true := by simp; omega
        have hz2 : (0 : Int) < (L : Int) := by omega
        clear hsk
        go_wp2_with fail
        exact ⟨⟨k + 1, 0, by omega, by go_num, rfl, HS⟩, by simp [intOf]; omega⟩
      | false =>
        simp only [Bool.false_eq_true, if_false] at hsk
        by_cases hq : (q + 1) * 16 < L
        · rw [if_pos hq] at hsk
          have HS := Lib.hid hsk
          have hz : decide (((q : Int) + 1) * 16 < (L : Int)) = true := by simp; omega
          have hz2 : ((q : Int) + 1) * 16 < (L : Int) := by omega
          clear hsk
          go_wp2_with fail
          exact ⟨⟨k + 1, q + 1, by omega, by go_num, by go_num, HS⟩, by simp [intOf]; omega⟩
        · rw [if_neg hq] at hsk
          cases hsk
    · obtain rfl : k = 256 := by omega
      go_wp2_with fail
      go_ret2
      refine ⟨rfl, ?_⟩
      have h1 : Since w.heap.size w W1 := Since.of H0.out.2.1
      exact Keep.trans h1 (Keep.mono K3.out (fun i hi => Nat.le_trans h1.size hi))
end Go.Proofs.Ytnhajhejkecihaa
