/- A value's rightness: the walks. -/
import Derived.Test.YtbbeoeoengogpaaW1
import Derived.Laws.Closers25
namespace Go.Proofs.Ytbbeoeoengogpaa
open Go.RowKit Go.Lib
set_option linter.unusedVariables false

theorem empty_bytes {s : ByteArray} (h : s.size = 0) : s = ⟨#[]⟩ := by
  obtain ⟨d⟩ := s
  congr 1
  exact Array.eq_empty_of_size_eq_zero h
theorem not_empty {s : ByteArray} (hs : ¬ s.size = 0) : s.toList.isEmpty = false := by
  rw [← decide_eq_emptyBytes s]
  simp only [decide_eq_false_iff_not]
  rintro rfl
  exact hs rfl
theorem vr_other {a b : Int} {s : ByteArray} (h : s.size = 0) (h4 : a ≠ 4) (h0 : a ≠ 0) (h1 : a ≠ 1) (h2 : a ≠ 2) (h3 : a ≠ 3) (h5 : a ≠ 5) (h6 : a ≠ 6) : VR a b s = false := by
  unfold VR
  rw [if_neg h4, if_neg (by simpa using h), if_neg h0, if_neg h1, if_neg h2, if_neg h3, if_neg h5, if_neg h6]
set_option maxHeartbeats 4000000 in
theorem ref_right (a b : Int) {s : ByteArray} (h : PlainS s) (w : World) : Calls Try.prog 43 #[.agg #[.int .i64 a, .int .i64 b, .string s]] w fun e w' => e = .returned (.bool (VR a b s)) ∧ Keep (fun _ => False) w w' := by
  have hk := (Keep.refl (fun _ => False) w).alloc' (.cells #[.int .i64 a, .int .i64 b, .string s] 75)
  have HK := Lib.hid hk
  by_cases h4 : a = 4
  · subst h4
    have HP := Lib.hid (fun w => plain_any h w)
    have hv : VR 4 b s = (b == 0) := rfl
    rw [hv]
    clear hk h hv
    go_enter Try.func43, Try.ntmps43
    go_wp2_with fail
    ((with_reducible refine (HP.out _).mono ?_); rintro e w' ⟨rfl, rfl⟩)
    go_wp2_with fail
    go_ret
    exact ⟨rfl, HK.out⟩
  · have h4' : (a == 4) = false := by simpa using h4
    by_cases hs : s.size = 0
    · obtain rfl := empty_bytes hs
      clear hk
      by_cases h0 : a = 0
      · subst h0
        go_enter Try.func43, Try.ntmps43
        go_wp2_with fail
        go_ret
        exact ⟨rfl, HK.out⟩
      by_cases h1 : a = 1
      · subst h1
        go_enter Try.func43, Try.ntmps43
        go_wp2_with fail
        go_ret
        exact ⟨rfl, HK.out⟩
      by_cases h2 : a = 2
      · subst h2
        cases hb0 : (b == 0) with
        | true =>
          have hv : VR 2 b ⟨#[]⟩ = true := by show (b == 0 || b == 1) = true; rw [hb0]; rfl
          rw [hv]
          clear hv
          go_enter Try.func43, Try.ntmps43
          go_wp2_with fail
          go_ret
          exact ⟨rfl, HK.out⟩
        | false =>
          have hv : VR 2 b ⟨#[]⟩ = (b == 1) := by show (b == 0 || b == 1) = _; rw [hb0]; rfl
          rw [hv]
          clear hv
          go_enter Try.func43, Try.ntmps43
          go_wp2_with fail
          go_ret
          exact ⟨rfl, HK.out⟩
      by_cases h3 : a = 3
      · subst h3
        by_cases hl : -1000000000000000 ≤ b
        · have hd : decide (-1000000000000000 ≤ b) = true := by simpa using hl
          have hv : VR 3 b ⟨#[]⟩ = decide (b ≤ 1000000000000000) := by show (decide (-1000000000000000 ≤ b) && _) = _; rw [hd]; rfl
          rw [hv]
          clear hv
          go_enter Try.func43, Try.ntmps43
          go_wp2_with fail
          go_ret
          exact ⟨rfl, HK.out⟩
        · have hd : decide (-1000000000000000 ≤ b) = false := by simpa using hl
          have hv : VR 3 b ⟨#[]⟩ = false := by show (decide (-1000000000000000 ≤ b) && _) = _; rw [hd]; rfl
          rw [hv]
          clear hv
          go_enter Try.func43, Try.ntmps43
          go_wp2_with fail
          go_ret
          exact ⟨rfl, HK.out⟩
      by_cases h5 : a = 5
      · subst h5
        by_cases hl : 0 ≤ b
        · have hd : decide (0 ≤ b) = true := by simpa using hl
          have hv : VR 5 b ⟨#[]⟩ = decide (b ≤ 1000000000) := by show (decide (0 ≤ b) && _) = _; rw [hd]; rfl
          rw [hv]
          clear hv
          go_enter Try.func43, Try.ntmps43
          go_wp2_with fail
          go_ret
          exact ⟨rfl, HK.out⟩
        · have hd : decide (0 ≤ b) = false := by simpa using hl
          have hv : VR 5 b ⟨#[]⟩ = false := by show (decide (0 ≤ b) && _) = _; rw [hd]; rfl
          rw [hv]
          clear hv
          go_enter Try.func43, Try.ntmps43
          go_wp2_with fail
          go_ret
          exact ⟨rfl, HK.out⟩
      by_cases h6 : a = 6
      · subst h6
        by_cases hl : 0 ≤ b
        · have hd : decide (0 ≤ b) = true := by simpa using hl
          have hv : VR 6 b ⟨#[]⟩ = decide (b < 24) := by show (decide (0 ≤ b) && _) = _; rw [hd]; rfl
          rw [hv]
          clear hv
          go_enter Try.func43, Try.ntmps43
          go_wp2_with fail
          go_ret
          exact ⟨rfl, HK.out⟩
        · have hd : decide (0 ≤ b) = false := by simpa using hl
          have hv : VR 6 b ⟨#[]⟩ = false := by show (decide (0 ≤ b) && _) = _; rw [hd]; rfl
          rw [hv]
          clear hv
          go_enter Try.func43, Try.ntmps43
          go_wp2_with fail
          go_ret
          exact ⟨rfl, HK.out⟩
      have h0' : (a == 0) = false := by simpa using h0
      have h1' : (a == 1) = false := by simpa using h1
      have h2' : (a == 2) = false := by simpa using h2
      have h3' : (a == 3) = false := by simpa using h3
      have h5' : (a == 5) = false := by simpa using h5
      have h6' : (a == 6) = false := by simpa using h6
      rw [vr_other rfl h4 h0 h1 h2 h3 h5 h6]
      go_enter Try.func43, Try.ntmps43
      go_wp2_with fail
      go_ret
      exact ⟨rfl, HK.out⟩
    · have he : s.toList.isEmpty = false := not_empty hs
      have hv : VR a b s = false := by unfold VR; rw [if_neg h4, if_pos hs]
      rw [hv]
      clear hk hv
      go_enter Try.func43, Try.ntmps43
      go_wp2_with fail
      go_ret
      exact ⟨rfl, HK.out⟩
theorem since_below' {w w' : World} (h : Below w.heap.size w w') : Since w.heap.size w w' := ⟨h.os, h.tape, h.output, h.size, fun k hk hn => h.block k hk⟩
theorem vr_0 (b : Int) : VR 0 b ⟨#[]⟩ = (decide (0 ≤ b) && decide (b ≤ 0)) := by
  show (b == 0) = _
  rw [Bool.eq_iff_iff]
  simp
  omega
theorem vr_1 (b : Int) : VR 1 b ⟨#[]⟩ = (decide (0 ≤ b) && decide (b ≤ 0)) := vr_0 b
theorem vr_2 (b : Int) : VR 2 b ⟨#[]⟩ = (decide (0 ≤ b) && decide (b ≤ 1)) := by
  show (b == 0 || b == 1) = _
  rw [Bool.eq_iff_iff]
  simp
  omega
theorem vr_3 (b : Int) : VR 3 b ⟨#[]⟩ = (decide (-1000000000000000 ≤ b) && decide (b ≤ 1000000000000000)) := rfl
theorem vr_5 (b : Int) : VR 5 b ⟨#[]⟩ = (decide (0 ≤ b) && decide (b ≤ 1000000000)) := rfl
theorem vr_6 (b : Int) : VR 6 b ⟨#[]⟩ = (decide (0 ≤ b) && decide (b ≤ 23)) := by
  show (decide (0 ≤ b) && decide (b < 24)) = _
  rw [Bool.eq_iff_iff]
  simp
  omega
set_option maxHeartbeats 4000000 in
theorem val_right (a b : Int) {s : ByteArray} (h : PlainS s) (w : World) : Calls Try.prog 51 #[.agg #[.int .i64 a, .int .i64 b, .string s]] w fun e w' => e = .returned (.bool (VR a b s)) ∧ Since w.heap.size w w' := by
  have hk := (Keep.refl (fun _ => False) w).alloc' (.cells #[.int .i64 a, .int .i64 b, .string s] 75)
  have HK := Lib.hid (Since.of (n := w.heap.size) hk)
  by_cases h4 : a = 4
  · subst h4
    have HP := Lib.hid (fun w => contains_plain h w)
    have hs200 := h.size
    obtain ⟨nz, hnz⟩ : ∃ nz, s.size = nz := ⟨_, rfl⟩
    rw [hnz] at hs200
    have hd200 : decide ((nz : Int) ≤ 200) = true := by simp; omega
    have hd200' : decide (nz ≤ 200) = true := by simpa using hs200
    have hv : VR 4 b s = (b == 0) := rfl
    rw [hv]
    clear hk h hv
    go_enter Try.func51, Try.ntmps51
    go_wp2_with fail
    ((with_reducible refine (HP.out _).mono ?_); rintro e w' ⟨rfl, hb'⟩)
    have HK2 := Lib.hid (Keep.trans HK.out (Since.mono (since_below' hb') HK.out.size))
    have hb1 := (hb'.block w.heap.size (by simp)).trans (heap_alloc_new w (.cells #[.int .i64 4, .int .i64 b, .string s] 75))
    have c0 := blk_cell hb1 0
    have c1 := blk_cell hb1 1
    have c2 := blk_cell hb1 2
    simp only [List.getElem?_toArray, List.getElem?_cons_zero, List.getElem?_cons_succ] at c0 c1 c2
    clear hb' hb1
    cases hb0 : (b == 0) with
    | true =>
      go_wp2_with fail
      go_ret
      exact ⟨by rw [hb0]; rfl, HK2.out⟩
    | false =>
      go_wp2_with fail
      go_ret
      exact ⟨by rw [hb0]; rfl, HK2.out⟩
  · have h4' : (a == 4) = false := by simpa using h4
    by_cases hs : s.size = 0
    · obtain rfl := empty_bytes hs
      clear hk
      by_cases h0 : a = 0
      · subst h0
        have hvr : VR 0 b ⟨#[]⟩ = (decide (0 ≤ b) && decide (b ≤ 0)) := vr_0 b
        by_cases hl : 0 ≤ b
        · have hd : decide (0 ≤ b) = true := by simpa using hl
          have hv : VR 0 b ⟨#[]⟩ = decide (b ≤ 0) := by rw [hvr, hd]; rfl
          rw [hv]
          clear hv hvr
          go_enter Try.func51, Try.ntmps51
          go_wp2_with fail
          go_ret
          exact ⟨rfl, HK.out⟩
        · have hd : decide (0 ≤ b) = false := by simpa using hl
          have hv : VR 0 b ⟨#[]⟩ = false := by rw [hvr, hd]; rfl
          rw [hv]
          clear hv hvr
          go_enter Try.func51, Try.ntmps51
          go_wp2_with fail
          go_ret
          exact ⟨rfl, HK.out⟩
      by_cases h1 : a = 1
      · subst h1
        have hvr : VR 1 b ⟨#[]⟩ = (decide (0 ≤ b) && decide (b ≤ 0)) := vr_1 b
        by_cases hl : 0 ≤ b
        · have hd : decide (0 ≤ b) = true := by simpa using hl
          have hv : VR 1 b ⟨#[]⟩ = decide (b ≤ 0) := by rw [hvr, hd]; rfl
          rw [hv]
          clear hv hvr
          go_enter Try.func51, Try.ntmps51
          go_wp2_with fail
          go_ret
          exact ⟨rfl, HK.out⟩
        · have hd : decide (0 ≤ b) = false := by simpa using hl
          have hv : VR 1 b ⟨#[]⟩ = false := by rw [hvr, hd]; rfl
          rw [hv]
          clear hv hvr
          go_enter Try.func51, Try.ntmps51
          go_wp2_with fail
          go_ret
          exact ⟨rfl, HK.out⟩
      by_cases h2 : a = 2
      · subst h2
        have hvr : VR 2 b ⟨#[]⟩ = (decide (0 ≤ b) && decide (b ≤ 1)) := vr_2 b
        by_cases hl : 0 ≤ b
        · have hd : decide (0 ≤ b) = true := by simpa using hl
          have hv : VR 2 b ⟨#[]⟩ = decide (b ≤ 1) := by rw [hvr, hd]; rfl
          rw [hv]
          clear hv hvr
          go_enter Try.func51, Try.ntmps51
          go_wp2_with fail
          go_ret
          exact ⟨rfl, HK.out⟩
        · have hd : decide (0 ≤ b) = false := by simpa using hl
          have hv : VR 2 b ⟨#[]⟩ = false := by rw [hvr, hd]; rfl
          rw [hv]
          clear hv hvr
          go_enter Try.func51, Try.ntmps51
          go_wp2_with fail
          go_ret
          exact ⟨rfl, HK.out⟩
      by_cases h3 : a = 3
      · subst h3
        have hvr : VR 3 b ⟨#[]⟩ = (decide (-1000000000000000 ≤ b) && decide (b ≤ 1000000000000000)) := vr_3 b
        by_cases hl : -1000000000000000 ≤ b
        · have hd : decide (-1000000000000000 ≤ b) = true := by simpa using hl
          have hv : VR 3 b ⟨#[]⟩ = decide (b ≤ 1000000000000000) := by rw [hvr, hd]; rfl
          rw [hv]
          clear hv hvr
          go_enter Try.func51, Try.ntmps51
          go_wp2_with fail
          go_ret
          exact ⟨rfl, HK.out⟩
        · have hd : decide (-1000000000000000 ≤ b) = false := by simpa using hl
          have hv : VR 3 b ⟨#[]⟩ = false := by rw [hvr, hd]; rfl
          rw [hv]
          clear hv hvr
          go_enter Try.func51, Try.ntmps51
          go_wp2_with fail
          go_ret
          exact ⟨rfl, HK.out⟩
      by_cases h5 : a = 5
      · subst h5
        have hvr : VR 5 b ⟨#[]⟩ = (decide (0 ≤ b) && decide (b ≤ 1000000000)) := vr_5 b
        by_cases hl : 0 ≤ b
        · have hd : decide (0 ≤ b) = true := by simpa using hl
          have hv : VR 5 b ⟨#[]⟩ = decide (b ≤ 1000000000) := by rw [hvr, hd]; rfl
          rw [hv]
          clear hv hvr
          go_enter Try.func51, Try.ntmps51
          go_wp2_with fail
          go_ret
          exact ⟨rfl, HK.out⟩
        · have hd : decide (0 ≤ b) = false := by simpa using hl
          have hv : VR 5 b ⟨#[]⟩ = false := by rw [hvr, hd]; rfl
          rw [hv]
          clear hv hvr
          go_enter Try.func51, Try.ntmps51
          go_wp2_with fail
          go_ret
          exact ⟨rfl, HK.out⟩
      by_cases h6 : a = 6
      · subst h6
        have hvr : VR 6 b ⟨#[]⟩ = (decide (0 ≤ b) && decide (b ≤ 23)) := vr_6 b
        by_cases hl : 0 ≤ b
        · have hd : decide (0 ≤ b) = true := by simpa using hl
          have hv : VR 6 b ⟨#[]⟩ = decide (b ≤ 23) := by rw [hvr, hd]; rfl
          rw [hv]
          clear hv hvr
          go_enter Try.func51, Try.ntmps51
          go_wp2_with fail
          go_ret
          exact ⟨rfl, HK.out⟩
        · have hd : decide (0 ≤ b) = false := by simpa using hl
          have hv : VR 6 b ⟨#[]⟩ = false := by rw [hvr, hd]; rfl
          rw [hv]
          clear hv hvr
          go_enter Try.func51, Try.ntmps51
          go_wp2_with fail
          go_ret
          exact ⟨rfl, HK.out⟩
      have h0' : (a == 0) = false := by simpa using h0
      have h1' : (a == 1) = false := by simpa using h1
      have h2' : (a == 2) = false := by simpa using h2
      have h3' : (a == 3) = false := by simpa using h3
      have h5' : (a == 5) = false := by simpa using h5
      have h6' : (a == 6) = false := by simpa using h6
      rw [vr_other rfl h4 h0 h1 h2 h3 h5 h6]
      go_enter Try.func51, Try.ntmps51
      go_wp2_with fail
      go_ret
      exact ⟨rfl, HK.out⟩
    · have he : s.toList.isEmpty = false := not_empty hs
      have hv : VR a b s = false := by unfold VR; rw [if_neg h4, if_pos hs]
      rw [hv]
      clear hk hv
      go_enter Try.func51, Try.ntmps51
      go_wp2_with fail
      all_goals go_ret
      all_goals exact ⟨rfl, HK.out⟩
end Go.Proofs.Ytbbeoeoengogpaa
