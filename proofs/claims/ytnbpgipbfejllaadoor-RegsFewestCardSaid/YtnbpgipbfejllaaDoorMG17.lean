/- graph: the names of an object. -/
import Derived.Test.YtnbpgipbfejllaaDoorMG16
import Derived.Lib.Strings
import Derived.Laws.Closers25
namespace Go.Proofs.YtnbpgipbfejllaaDoor
open Go.RowKit
set_option linter.unusedVariables false
set_option linter.unusedSimpArgs false

theorem toList_inj {u v : Bytes} (h : (sb u).toList = (sb v).toList) : u = v := by
  rw [Lib.toList_data, Lib.toList_data] at h
  exact h
set_option maxRecDepth 100000 in
set_option maxHeartbeats 2000000 in
theorem names_none {w : World} (A : Option Addr) (c : Nat) : Calls Tryd.prog 98 #[.slice A 0 c] w fun e w' => e = .returned (.bool true) ∧ w = w' := by
  go_enter Tryd.func98, Tryd.ntmps98
  go_wp2_with fail
  go_loopw [3] (fun i wr => i = .int .i64 0 ∧ Hid (w = wr)) (fun i _ => 1)
  case atStart => exact ⟨rfl, Lib.hid rfl⟩
  case round =>
    obtain ⟨rfl, HW⟩ := hrel
    obtain ⟨wo, rfl⟩ : ∃ wo : World, wo = wr := ⟨_, rfl⟩
    obtain rfl := HW.out
    go_wp2_with fail
    go_ret
    exact ⟨rfl, rfl⟩
set_option maxRecDepth 100000 in
set_option maxHeartbeats 2000000 in
theorem index_xy {w : World} {g o : Nat} (c : Nat) (h0 : w.cell? ⟨g, o, none⟩ = some (.string (sb [120]))) (h1 : w.cell? ⟨g, o + 1, none⟩ = some (.string (sb [121]))) (k : Nat) (hk : k < 2) : Calls Tryd.prog 103 #[.slice (some ⟨g, o, none⟩) 2 c, .string (if k = 0 then sb [120] else sb [121])] w fun e w' => e = .returned (.int .i64 (k : Int)) ∧ w = w' := by
  have hne : ((sb [120]).toList == (sb [121]).toList) = false := by rw [beq_eq_false_iff_ne]; exact fun h => absurd (toList_inj h) (by decide)
  rcases (show k = 0 ∨ k = 1 by omega) with rfl | rfl
  · rw [if_pos rfl]
    clear hne
    go_enter Tryd.func103, Tryd.ntmps103
    go_wp2_with fail
    go_loopw [5] (fun i wr => i = .int .i64 0 ∧ Hid (w = wr)) (fun i _ => 1)
    case atStart => exact ⟨rfl, Lib.hid rfl⟩
    case round =>
      obtain ⟨rfl, HW⟩ := hrel
      obtain ⟨wo, rfl⟩ : ∃ wo : World, wo = wr := ⟨_, rfl⟩
      obtain rfl := HW.out
      go_wp2_with fail
      go_ret
      exact ⟨rfl, rfl⟩
  · rw [if_neg (by decide)]
    go_enter Tryd.func103, Tryd.ntmps103
    go_wp2_with fail
    go_loopw [5] (fun i wr => ∃ k : Nat, k ≤ 1 ∧ i = .int .i64 (k : Int) ∧ Hid (w = wr)) (fun i _ => 3 - (RowKit.intOf i).toNat)
    case atStart => exact ⟨0, by omega, rfl, Lib.hid rfl⟩
    case round =>
      obtain ⟨k, hk2, rfl, HW⟩ := hrel
      obtain ⟨wo, rfl⟩ : ∃ wo : World, wo = wr := ⟨_, rfl⟩
      obtain rfl := HW.out
      rcases (show k = 0 ∨ k = 1 by omega) with rfl | rfl
      · go_wp2_with fail
        exact ⟨⟨1, by omega, by go_num, Lib.hid trivial⟩, by simp [RowKit.intOf]⟩
      · go_wp2_with fail
        go_ret
        exact ⟨rfl, rfl⟩
set_option maxRecDepth 100000 in
set_option maxHeartbeats 2000000 in
theorem names_xy {w : World} {g o : Nat} (c : Nat) (h0 : w.cell? ⟨g, o, none⟩ = some (.string (sb [120]))) (h1 : w.cell? ⟨g, o + 1, none⟩ = some (.string (sb [121]))) : Calls Tryd.prog 98 #[.slice (some ⟨g, o, none⟩) 2 c] w fun e w' => e = .returned (.bool true) ∧ w = w' := by
  have n0 : (sb [120]).toList.isEmpty = false := by rw [Lib.toList_data]; rfl
  have n1 : (sb [121]).toList.isEmpty = false := by rw [Lib.toList_data]; rfl
  have HI0 := Lib.hid (show Calls Tryd.prog 103 #[.slice (some ⟨g, o, none⟩) 2 c, .string (sb [120])] w _ from index_xy c h0 h1 0 (by omega))
  have HI1 := Lib.hid (show Calls Tryd.prog 103 #[.slice (some ⟨g, o, none⟩) 2 c, .string (sb [121])] w _ from index_xy c h0 h1 1 (by omega))
  go_enter Tryd.func98, Tryd.ntmps98
  go_wp2_with fail
  go_loopw [3] (fun i wr => ∃ k : Nat, k ≤ 2 ∧ i = .int .i64 (k : Int) ∧ Hid (w = wr)) (fun i _ => 3 - (RowKit.intOf i).toNat)
  case atStart => exact ⟨0, by omega, rfl, Lib.hid rfl⟩
  case round =>
    obtain ⟨k, hk2, rfl, HW⟩ := hrel
    obtain ⟨wo, rfl⟩ : ∃ wo : World, wo = wr := ⟨_, rfl⟩
    obtain rfl := HW.out
    rcases (show k = 0 ∨ k = 1 ∨ k = 2 by omega) with rfl | rfl | rfl
    · go_wp2_with fail
      ((with_reducible refine HI0.out.mono ?_); rintro ee w' ⟨rfl, rfl⟩)
      go_wp2_with fail
      exact ⟨⟨1, by omega, by go_num, Lib.hid trivial⟩, by simp [RowKit.intOf]⟩
    · go_wp2_with fail
      ((with_reducible refine HI1.out.mono ?_); rintro ee w' ⟨rfl, rfl⟩)
      go_wp2_with fail
      exact ⟨⟨2, by omega, by go_num, Lib.hid trivial⟩, by simp [RowKit.intOf]⟩
    · go_wp2_with fail
      go_ret
      exact ⟨rfl, rfl⟩
end Go.Proofs.YtnbpgipbfejllaaDoor
/- graph: which values are right; which may be constants (the reference). -/
namespace Go.Proofs.YtnbpgipbfejllaaDoor
open Go.RowKit Go.Lib
set_option linter.unusedVariables false
set_option linter.unusedSimpArgs false

structure PlainS (s : ByteArray) : Prop where
  all : ∀ i, (h : i < s.size) → 32 ≤ (s[i]'h).toNat ∧ (s[i]'h).toNat ≤ 126
  size : s.size ≤ 200
/-- What is right. -/
def VR (a b : Int) (s : ByteArray) : Bool :=
  if a = 4 then b == 0
  else if s.size ≠ 0 then false
  else if a = 0 then b == 0
  else if a = 1 then b == 0
  else if a = 2 then (b == 0 || b == 1)
  else if a = 3 then (decide (-1000000000000000 ≤ b) && decide (b ≤ 1000000000000000))
  else if a = 5 then (decide (0 ≤ b) && decide (b ≤ 1000000000))
  else if a = 6 then (decide (0 ≤ b) && decide (b < 24))
  else false
set_option maxHeartbeats 1000000 in
theorem plain_any {s : ByteArray} (h : PlainS s) (w : World) : Calls Tryd.prog 102 #[.string s] w fun e w' => e = .returned (.bool true) ∧ w = w' := by
  have hs := h.size
  have H := Lib.hid h
  obtain ⟨n, hn⟩ : ∃ n, s.size = n := ⟨_, rfl⟩
  have HN := Lib.hid hn
  rw [hn] at hs
  clear h
  go_enter Tryd.func102, Tryd.ntmps102
  go_wp2_with fail
  go_loop [3] (fun i => ∃ k : Nat, k ≤ n ∧ i = .int .i64 (k : Int)) (fun i => n + 1 - (RowKit.intOf i).toNat)
  case atStart => exact ⟨0, Nat.zero_le _, rfl⟩
  case round =>
    obtain ⟨k, hk, rfl⟩ := hrel
    by_cases hlt : k < n
    · have hb : decide (k < n) = true := by simpa using hlt
      have hks : k < s.size := by rw [HN.out]; exact hlt
      have hb2 := H.out.all k hks
      go_wp2_with fail
      exact ⟨⟨k + 1, by omega, by go_num⟩, by simp [RowKit.intOf]; omega⟩
    · have hb : decide (k < n) = false := by simpa using hlt
      have hb3 : decide ((n : Int) ≤ 200) = true := by simp; omega
      go_wp2_with fail
      go_ret
      exact ⟨by rw [← hb3]; rfl, rfl⟩
theorem empty_bytes {s : ByteArray} (h : s.size = 0) : s = ⟨#[]⟩ := by
  obtain ⟨d⟩ := s
  congr 1
  exact Array.eq_empty_of_size_eq_zero h
theorem not_empty {s : ByteArray} (hs : ¬ s.size = 0) : s.toList.isEmpty = false := by
  rw [← decide_eq_emptyBytes s]
  simp only [decide_eq_false_iff_not]
  rintro rfl
  exact hs rfl
theorem vr_other {a b : Int} {s : ByteArray} (h : s.size = 0) (h4 : a ≠ 4) (h0 : a ≠ 0) (h1 : a ≠ 1) (h2 : a ≠ 2) (h3 : a ≠ 3) (h5 : a ≠ 5) (h6 : a ≠ 6) : VR a b s = false := by
  unfold VR
  rw [if_neg h4, if_neg (by simpa using h), if_neg h0, if_neg h1, if_neg h2, if_neg h3, if_neg h5, if_neg h6]
set_option maxHeartbeats 4000000 in
theorem ref_right (a b : Int) {s : ByteArray} (h : PlainS s) (w : World) : Calls Tryd.prog 94 #[.agg #[.int .i64 a, .int .i64 b, .string s]] w fun e w' => e = .returned (.bool (VR a b s)) ∧ Keep (fun _ => False) w w' := by
  have hk := (Keep.refl (fun _ => False) w).alloc' (.cells #[.int .i64 a, .int .i64 b, .string s] 57)
  have HK := Lib.hid hk
  by_cases h4 : a = 4
  · subst h4
    have HP := Lib.hid (fun w => plain_any h w)
    have hv : VR 4 b s = (b == 0) := rfl
    rw [hv]
    clear hk h hv
    go_enter Tryd.func94, Tryd.ntmps94
    go_wp2_with fail
    ((with_reducible refine (HP.out _).mono ?_); rintro e w' ⟨rfl, rfl⟩)
    go_wp2_with fail
    go_ret
    exact ⟨rfl, HK.out⟩
  · have h4' : (a == 4) = false := by simpa using h4
    by_cases hs : s.size = 0
    · obtain rfl := empty_bytes hs
      clear hk
      by_cases h0 : a = 0
      · subst h0
        go_enter Tryd.func94, Tryd.ntmps94
        go_wp2_with fail
        go_ret
        exact ⟨rfl, HK.out⟩
      by_cases h1 : a = 1
      · subst h1
        go_enter Tryd.func94, Tryd.ntmps94
        go_wp2_with fail
        go_ret
        exact ⟨rfl, HK.out⟩
      by_cases h2 : a = 2
      · subst h2
        cases hb0 : (b == 0) with
        | true =>
          have hv : VR 2 b ⟨#[]⟩ = true := by show (b == 0 || b == 1) = true; rw [hb0]; rfl
          rw [hv]
          clear hv
          go_enter Tryd.func94, Tryd.ntmps94
          go_wp2_with fail
          go_ret
          exact ⟨rfl, HK.out⟩
        | false =>
          have hv : VR 2 b ⟨#[]⟩ = (b == 1) := by show (b == 0 || b == 1) = _; rw [hb0]; rfl
          rw [hv]
          clear hv
          go_enter Tryd.func94, Tryd.ntmps94
          go_wp2_with fail
          go_ret
          exact ⟨rfl, HK.out⟩
      by_cases h3 : a = 3
      · subst h3
        by_cases hl : -1000000000000000 ≤ b
        · have hd : decide (-1000000000000000 ≤ b) = true := by simpa using hl
          have hv : VR 3 b ⟨#[]⟩ = decide (b ≤ 1000000000000000) := by show (decide (-1000000000000000 ≤ b) && _) = _; rw [hd]; rfl
          rw [hv]
          clear hv
          go_enter Tryd.func94, Tryd.ntmps94
          go_wp2_with fail
          go_ret
          exact ⟨rfl, HK.out⟩
        · have hd : decide (-1000000000000000 ≤ b) = false := by simpa using hl
          have hv : VR 3 b ⟨#[]⟩ = false := by show (decide (-1000000000000000 ≤ b) && _) = _; rw [hd]; rfl
          rw [hv]
          clear hv
          go_enter Tryd.func94, Tryd.ntmps94
          go_wp2_with fail
          go_ret
          exact ⟨rfl, HK.out⟩
      by_cases h5 : a = 5
      · subst h5
        by_cases hl : 0 ≤ b
        · have hd : decide (0 ≤ b) = true := by simpa using hl
          have hv : VR 5 b ⟨#[]⟩ = decide (b ≤ 1000000000) := by show (decide (0 ≤ b) && _) = _; rw [hd]; rfl
          rw [hv]
          clear hv
          go_enter Tryd.func94, Tryd.ntmps94
          go_wp2_with fail
          go_ret
          exact ⟨rfl, HK.out⟩
        · have hd : decide (0 ≤ b) = false := by simpa using hl
          have hv : VR 5 b ⟨#[]⟩ = false := by show (decide (0 ≤ b) && _) = _; rw [hd]; rfl
          rw [hv]
          clear hv
          go_enter Tryd.func94, Tryd.ntmps94
          go_wp2_with fail
          go_ret
          exact ⟨rfl, HK.out⟩
      by_cases h6 : a = 6
      · subst h6
        by_cases hl : 0 ≤ b
        · have hd : decide (0 ≤ b) = true := by simpa using hl
          have hv : VR 6 b ⟨#[]⟩ = decide (b < 24) := by show (decide (0 ≤ b) && _) = _; rw [hd]; rfl
          rw [hv]
          clear hv
          go_enter Tryd.func94, Tryd.ntmps94
          go_wp2_with fail
          go_ret
          exact ⟨rfl, HK.out⟩
        · have hd : decide (0 ≤ b) = false := by simpa using hl
          have hv : VR 6 b ⟨#[]⟩ = false := by show (decide (0 ≤ b) && _) = _; rw [hd]; rfl
          rw [hv]
          clear hv
          go_enter Tryd.func94, Tryd.ntmps94
          go_wp2_with fail
          go_ret
          exact ⟨rfl, HK.out⟩
      have h0' : (a == 0) = false := by simpa using h0
      have h1' : (a == 1) = false := by simpa using h1
      have h2' : (a == 2) = false := by simpa using h2
      have h3' : (a == 3) = false := by simpa using h3
      have h5' : (a == 5) = false := by simpa using h5
      have h6' : (a == 6) = false := by simpa using h6
      rw [vr_other rfl h4 h0 h1 h2 h3 h5 h6]
      go_enter Tryd.func94, Tryd.ntmps94
      go_wp2_with fail
      go_ret
      exact ⟨rfl, HK.out⟩
    · have he : s.toList.isEmpty = false := not_empty hs
      have hv : VR a b s = false := by unfold VR; rw [if_neg h4, if_pos hs]
      rw [hv]
      clear hk hv
      go_enter Tryd.func94, Tryd.ntmps94
      go_wp2_with fail
      go_ret
      exact ⟨rfl, HK.out⟩
theorem since_below' {w w' : World} (h : Below w.heap.size w w') : Since w.heap.size w w' := ⟨h.os, h.tape, h.output, h.size, fun k hk hn => h.block k hk⟩
theorem vr_0 (b : Int) : VR 0 b ⟨#[]⟩ = (decide (0 ≤ b) && decide (b ≤ 0)) := by
  show (b == 0) = _
  rw [Bool.eq_iff_iff]
  simp
  omega
theorem vr_1 (b : Int) : VR 1 b ⟨#[]⟩ = (decide (0 ≤ b) && decide (b ≤ 0)) := vr_0 b
theorem vr_2 (b : Int) : VR 2 b ⟨#[]⟩ = (decide (0 ≤ b) && decide (b ≤ 1)) := by
  show (b == 0 || b == 1) = _
  rw [Bool.eq_iff_iff]
  simp
  omega
theorem vr_3 (b : Int) : VR 3 b ⟨#[]⟩ = (decide (-1000000000000000 ≤ b) && decide (b ≤ 1000000000000000)) := rfl
theorem vr_5 (b : Int) : VR 5 b ⟨#[]⟩ = (decide (0 ≤ b) && decide (b ≤ 1000000000)) := rfl
theorem vr_6 (b : Int) : VR 6 b ⟨#[]⟩ = (decide (0 ≤ b) && decide (b ≤ 23)) := by
  show (decide (0 ≤ b) && decide (b < 24)) = _
  rw [Bool.eq_iff_iff]
  simp
  omega
def ConstK (kk kn : Int) (ks : Bytes) : Prop := kk = 3 ∧ -2 ≤ kn ∧ kn ≤ 4 ∧ ks = [] ∨ kk = 1 ∧ kn = 0 ∧ ks = [] ∨ kk = 2 ∧ kn = 1 ∧ ks = [] ∨ kk = 4 ∧ kn = 0 ∧ ks = [115]
theorem ConstK.plain {kk kn : Int} {ks : Bytes} (h : ConstK kk kn ks) : PlainS (sb ks) := by
  rcases h with ⟨_, _, _, rfl⟩ | ⟨_, _, rfl⟩ | ⟨_, _, rfl⟩ | ⟨_, _, rfl⟩
  · exact ⟨fun i hi => absurd hi (by rw [sb_size]; simp), by rw [sb_size]; simp⟩
  · exact ⟨fun i hi => absurd hi (by rw [sb_size]; simp), by rw [sb_size]; simp⟩
  · exact ⟨fun i hi => absurd hi (by rw [sb_size]; simp), by rw [sb_size]; simp⟩
  · refine ⟨fun i hi => ?_, by rw [sb_size]; simp⟩
    have h1 := hi
    rw [sb_size] at h1
    obtain rfl : i = 0 := by simpa using h1
    exact ⟨show 32 ≤ (115 : UInt8).toNat from by decide, show (115 : UInt8).toNat ≤ 126 from by decide⟩
theorem ConstK.right {kk kn : Int} {ks : Bytes} (h : ConstK kk kn ks) : VR kk kn (sb ks) = true := by
  rcases h with ⟨rfl, h1, h2, rfl⟩ | ⟨rfl, rfl, rfl⟩ | ⟨rfl, rfl, rfl⟩ | ⟨rfl, rfl, rfl⟩
  · show VR 3 kn ⟨#[]⟩ = true
    rw [vr_3]; simp; omega
  · rfl
  · rfl
  · rfl
set_option maxRecDepth 100000 in
set_option maxHeartbeats 2000000 in
theorem const_any {kk kn : Int} {ks : Bytes} (h : ConstK kk kn ks) (w : World) : Calls Tryd.prog 78 #[.agg #[.int .i64 kk, .int .i64 kn, .string (sb ks)]] w fun e w' => e = .returned (.bool true) ∧ Keep (fun _ => False) w w' := by
  have HRR := Lib.hid (fun W : World => ref_right kk kn h.plain W)
  rw [h.right] at HRR
  have HK := Lib.hid ((Keep.refl (fun _ => False) w).alloc' (.cells #[.int .i64 kk, .int .i64 kn, .string (sb ks)] 57))
  have HB := Lib.hid (heap_alloc_new w (.cells #[.int .i64 kk, .int .i64 kn, .string (sb ks)] 57))
  have g0 : (kk != 0) = true := by rcases h with ⟨rfl, _⟩ | ⟨rfl, _⟩ | ⟨rfl, _⟩ | ⟨rfl, _⟩ <;> rfl
  have g5 : (kk != 5) = true := by rcases h with ⟨rfl, _⟩ | ⟨rfl, _⟩ | ⟨rfl, _⟩ | ⟨rfl, _⟩ <;> rfl
  have g0' : (kk == 0) = false := by rcases h with ⟨rfl, _⟩ | ⟨rfl, _⟩ | ⟨rfl, _⟩ | ⟨rfl, _⟩ <;> rfl
  have g5' : (kk == 5) = false := by rcases h with ⟨rfl, _⟩ | ⟨rfl, _⟩ | ⟨rfl, _⟩ | ⟨rfl, _⟩ <;> rfl
  clear h
  go_enter Tryd.func78, Tryd.ntmps78
  go_upto_region 1 with (fail)
  obtain ⟨q, hq⟩ : ∃ q, w.heap.size = q := ⟨_, rfl⟩
  obtain ⟨w1, hw1⟩ : ∃ w1 : World, w.alloc (.cells #[.int .i64 kk, .int .i64 kn, .string (sb ks)] 57) = w1 := ⟨_, rfl⟩
  rw [hw1] at HK HB
  rw [hq] at HB
  rw [hw1, hq]
  clear hw1 hq
  have c0 := (blk_cell HB.out 0).trans rfl
  have c1 := (blk_cell HB.out 1).trans rfl
  have c2 := (blk_cell HB.out 2).trans rfl
  go_wp2_with fail
  ((with_reducible refine (HRR.out _).mono ?_); rintro ee w2 ⟨rfl, hk2⟩)
  have d0 : w2.cell? ⟨q, 0, none⟩ = some (.int .i64 kk) := cell_kept hk2 ((blk_cell HB.out 0).trans rfl) id
  have HK2 := Lib.hid (Keep.trans HK.out hk2)
  clear hk2 c0 c1 c2
  go_wp2_with fail
  go_ret
  exact ⟨rfl, HK2.out⟩
end Go.Proofs.YtnbpgipbfejllaaDoor
/- graph: an instruction is the same as itself. -/
namespace Go.Proofs.YtnbpgipbfejllaaDoor
open Go.RowKit
set_option linter.unusedVariables false
set_option linter.unusedSimpArgs false

set_option maxRecDepth 100000 in
set_option maxHeartbeats 8000000 in
theorem same_any {w : World} (x : TI) (A1 : Option Addr) (ca1 : Nat) (N1 : Option Addr) (cn1 : Nat) (A2 : Option Addr) (ca2 : Nat) (N2 : Option Addr) (cn2 : Nat) (h1 : RI.Fits w ⟨x, A1, ca1, N1, cn1⟩) (h2 : RI.Fits w ⟨x, A2, ca2, N2, cn2⟩) :
    Calls Tryd.prog 47 #[.agg (RI.cells ⟨x, A1, ca1, N1, cn1⟩).toArray, .agg (RI.cells ⟨x, A2, ca2, N2, cn2⟩).toArray] w fun e w' => e = .returned (.bool true) ∧ Keep (fun _ => False) w w' := by
  obtain ⟨op, a, b, c, nn, args, kk, kn, ks, names, pf, pl, ex, once⟩ := x
  unfold RI.cells
  dsimp only
  have K1 := (Keep.refl (fun _ => False) w).alloc' (.cells #[.int .i64 op, .int .i64 a, .int .i64 b, .int .i64 c, .int .i64 nn, .slice A1 args.length ca1, .int .i64 kk, .int .i64 kn, .string (sb ks), .slice N1 names.length cn1, .int .i64 pf, .int .i64 pl, .int .i64 ex, .bool once] 60)
  have K2 := K1.alloc' (.cells #[.int .i64 op, .int .i64 a, .int .i64 b, .int .i64 c, .int .i64 nn, .slice A2 args.length ca2, .int .i64 kk, .int .i64 kn, .string (sb ks), .slice N2 names.length cn2, .int .i64 pf, .int .i64 pl, .int .i64 ex, .bool once] 60)
  have b1 := alloc_old' (o' := .cells #[.int .i64 op, .int .i64 a, .int .i64 b, .int .i64 c, .int .i64 nn, .slice A2 args.length ca2, .int .i64 kk, .int .i64 kn, .string (sb ks), .slice N2 names.length cn2, .int .i64 pf, .int .i64 pl, .int .i64 ex, .bool once] 60) (heap_alloc_new w (.cells #[.int .i64 op, .int .i64 a, .int .i64 b, .int .i64 c, .int .i64 nn, .slice A1 args.length ca1, .int .i64 kk, .int .i64 kn, .string (sb ks), .slice N1 names.length cn1, .int .i64 pf, .int .i64 pl, .int .i64 ex, .bool once] 60))
  have b2 := heap_alloc_new (w.alloc (.cells #[.int .i64 op, .int .i64 a, .int .i64 b, .int .i64 c, .int .i64 nn, .slice A1 args.length ca1, .int .i64 kk, .int .i64 kn, .string (sb ks), .slice N1 names.length cn1, .int .i64 pf, .int .i64 pl, .int .i64 ex, .bool once] 60)) (.cells #[.int .i64 op, .int .i64 a, .int .i64 b, .int .i64 c, .int .i64 nn, .slice A2 args.length ca2, .int .i64 kk, .int .i64 kn, .string (sb ks), .slice N2 names.length cn2, .int .i64 pf, .int .i64 pl, .int .i64 ex, .bool once] 60)
  rw [World.size_alloc] at b2
  have HB := Lib.hid (And.intro b1 b2)
  have HK := Lib.hid K2
  have HI := Lib.hid (fun (W : World) (hk : Keep (fun _ => False) w W) => ints_same (c1 := ca1) (c2 := ca2) (h1.1.quiet hk).1 (h2.1.quiet hk).1)
  have HS := Lib.hid (fun (W : World) (hk : Keep (fun _ => False) w W) => strs_same (c1 := cn1) (c2 := cn2) (h1.2.quiet hk).1 (h2.2.quiet hk).1)
  dsimp only at HI HS
  clear h1 h2 K1 K2 b1 b2
  go_enter Tryd.func47, Tryd.ntmps47
  go_upto_region 1 with (fail)
  obtain ⟨q, hq⟩ : ∃ q, w.heap.size = q := ⟨_, rfl⟩
  obtain ⟨w1, hw1⟩ : ∃ w1 : World, (w.alloc (.cells #[.int .i64 op, .int .i64 a, .int .i64 b, .int .i64 c, .int .i64 nn, .slice A1 args.length ca1, .int .i64 kk, .int .i64 kn, .string (sb ks), .slice N1 names.length cn1, .int .i64 pf, .int .i64 pl, .int .i64 ex, .bool once] 60)).alloc (.cells #[.int .i64 op, .int .i64 a, .int .i64 b, .int .i64 c, .int .i64 nn, .slice A2 args.length ca2, .int .i64 kk, .int .i64 kn, .string (sb ks), .slice N2 names.length cn2, .int .i64 pf, .int .i64 pl, .int .i64 ex, .bool once] 60) = w1 := ⟨_, rfl⟩
  rw [hw1] at HK HB
  rw [hq] at HB
  rw [hw1, hq]
  clear hw1 hq
  have y0 : w1.cell? ⟨q, 0, none⟩ = some (.int .i64 op) := (blk_cell HB.out.1 0).trans rfl
  have z0 : w1.cell? ⟨q + 1, 0, none⟩ = some (.int .i64 op) := (blk_cell HB.out.2 0).trans rfl
  have y1 : w1.cell? ⟨q, 1, none⟩ = some (.int .i64 a) := (blk_cell HB.out.1 1).trans rfl
  have z1 : w1.cell? ⟨q + 1, 1, none⟩ = some (.int .i64 a) := (blk_cell HB.out.2 1).trans rfl
  have y2 : w1.cell? ⟨q, 2, none⟩ = some (.int .i64 b) := (blk_cell HB.out.1 2).trans rfl
  have z2 : w1.cell? ⟨q + 1, 2, none⟩ = some (.int .i64 b) := (blk_cell HB.out.2 2).trans rfl
  have y3 : w1.cell? ⟨q, 3, none⟩ = some (.int .i64 c) := (blk_cell HB.out.1 3).trans rfl
  have z3 : w1.cell? ⟨q + 1, 3, none⟩ = some (.int .i64 c) := (blk_cell HB.out.2 3).trans rfl
  have y4 : w1.cell? ⟨q, 4, none⟩ = some (.int .i64 nn) := (blk_cell HB.out.1 4).trans rfl
  have z4 : w1.cell? ⟨q + 1, 4, none⟩ = some (.int .i64 nn) := (blk_cell HB.out.2 4).trans rfl
  have y5 : w1.cell? ⟨q, 5, none⟩ = some (.slice A1 args.length ca1) := (blk_cell HB.out.1 5).trans rfl
  have z5 : w1.cell? ⟨q + 1, 5, none⟩ = some (.slice A2 args.length ca2) := (blk_cell HB.out.2 5).trans rfl
  have y6 : w1.cell? ⟨q, 6, none⟩ = some (.int .i64 kk) := (blk_cell HB.out.1 6).trans rfl
  have z6 : w1.cell? ⟨q + 1, 6, none⟩ = some (.int .i64 kk) := (blk_cell HB.out.2 6).trans rfl
  have y7 : w1.cell? ⟨q, 7, none⟩ = some (.int .i64 kn) := (blk_cell HB.out.1 7).trans rfl
  have z7 : w1.cell? ⟨q + 1, 7, none⟩ = some (.int .i64 kn) := (blk_cell HB.out.2 7).trans rfl
  have y8 : w1.cell? ⟨q, 8, none⟩ = some (.string (sb ks)) := (blk_cell HB.out.1 8).trans rfl
  have z8 : w1.cell? ⟨q + 1, 8, none⟩ = some (.string (sb ks)) := (blk_cell HB.out.2 8).trans rfl
  have y9 : w1.cell? ⟨q, 9, none⟩ = some (.slice N1 names.length cn1) := (blk_cell HB.out.1 9).trans rfl
  have z9 : w1.cell? ⟨q + 1, 9, none⟩ = some (.slice N2 names.length cn2) := (blk_cell HB.out.2 9).trans rfl
  have y10 : w1.cell? ⟨q, 10, none⟩ = some (.int .i64 pf) := (blk_cell HB.out.1 10).trans rfl
  have z10 : w1.cell? ⟨q + 1, 10, none⟩ = some (.int .i64 pf) := (blk_cell HB.out.2 10).trans rfl
  have y11 : w1.cell? ⟨q, 11, none⟩ = some (.int .i64 pl) := (blk_cell HB.out.1 11).trans rfl
  have z11 : w1.cell? ⟨q + 1, 11, none⟩ = some (.int .i64 pl) := (blk_cell HB.out.2 11).trans rfl
  have y12 : w1.cell? ⟨q, 12, none⟩ = some (.int .i64 ex) := (blk_cell HB.out.1 12).trans rfl
  have z12 : w1.cell? ⟨q + 1, 12, none⟩ = some (.int .i64 ex) := (blk_cell HB.out.2 12).trans rfl
  have y13 : w1.cell? ⟨q, 13, none⟩ = some (.bool once) := (blk_cell HB.out.1 13).trans rfl
  have z13 : w1.cell? ⟨q + 1, 13, none⟩ = some (.bool once) := (blk_cell HB.out.2 13).trans rfl
  go_wp2_with fail
  ((with_reducible refine (HI.out _ HK.out).mono ?_); rintro ee w2 ⟨rfl, hk2⟩)
  have HK2 := Lib.hid (Keep.trans HK.out hk2)
  have u9 : w2.cell? ⟨q, 9, none⟩ = some (.slice N1 names.length cn1) := cell_kept hk2 y9 id
  have t9 : w2.cell? ⟨q + 1, 9, none⟩ = some (.slice N2 names.length cn2) := cell_kept hk2 z9 id
  clear hk2 y0 z0 y1 z1 y2 z2 y3 z3 y4 z4 y5 z5 y6 z6 y7 z7 y8 z8 y9 z9 y10 z10 y11 z11 y12 z12 y13 z13
  go_wp2_with fail
  ((with_reducible refine (HS.out _ HK2.out).mono ?_); rintro ee w3 ⟨rfl, hk3⟩)
  have HK3 := Lib.hid (Keep.trans HK2.out hk3)
  clear hk3
  go_wp2_with fail
  go_ret
  exact ⟨rfl, HK3.out⟩
end Go.Proofs.YtnbpgipbfejllaaDoor
/- graph: names x and y. -/
namespace Go.Proofs.YtnbpgipbfejllaaDoor
open Go.RowKit Go.Lib
set_option linter.unusedVariables false

theorem RI.Fits.xyr {w : World} {r : RI} (h : r.Fits w) (hx : r.x.names = xy) : ∃ g o, r.N = some ⟨g, o, none⟩ ∧ g < w.heap.size ∧ w.cell? ⟨g, o, none⟩ = some (.string (sb [120])) ∧ w.cell? ⟨g, o + 1, none⟩ = some (.string (sb [121])) := by
  have h2 := h.2.1
  rw [hx] at h2
  obtain ⟨g, o, e, hl, hc⟩ := h2.2.2 (by decide)
  exact ⟨g, o, e, hl, (hc 0 (by decide)).trans rfl, (hc 1 (by decide)).trans rfl⟩
end Go.Proofs.YtnbpgipbfejllaaDoor
