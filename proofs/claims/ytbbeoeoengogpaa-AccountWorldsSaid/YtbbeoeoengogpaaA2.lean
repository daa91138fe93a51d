/- Contracts of account's functions on numbers, and of their references. -/
import Derived.Test.YtbbeoeoengogpaaA1
namespace Go.Proofs.Ytbbeoeoengogpaa
open Go.RowKit
set_option linter.unusedVariables false

def I64 (x : Int) : Prop := -9223372036854775808 ≤ x ∧ x ≤ 9223372036854775807

/-! ### Due -/
def dueB (s e : Int) : Bool := decide (0 < e) && (decide (0 < s) && (s % e == 0))
theorem due_any (s e : Int) (w : World) (hs : I64 s) (he : I64 e) :
    Calls Try.prog 18 #[.int .i64 s, .int .i64 e] w fun r w' => r = .returned (.bool (dueB s e)) ∧ w = w' := by
  unfold I64 at hs he
  by_cases h1 : e > 0
  · by_cases h2 : s > 0
    · have : 0 ≤ s := by omega
      have : 1 ≤ e := by omega
      have hd : dueB s e = (s % e == 0) := by simp [dueB, h1, h2]
      have HD := Lib.hid hd; clear hd
      go_enter Try.func18, Try.ntmps18
      go_wp2
      go_ret
      exact ⟨by rw [HD.out]; rfl, rfl⟩
    · have h2' : decide (0 < s) = false := by simpa using h2
      have hd : dueB s e = false := by simp [dueB, h2']
      have HD := Lib.hid hd; clear hd
      go_enter Try.func18, Try.ntmps18
      go_wp2
      go_ret
      exact ⟨by rw [HD.out]; rfl, rfl⟩
  · have h2' : decide (0 < e) = false := by simpa using h1
    have hd : dueB s e = false := by simp [dueB, h2']
    have HD := Lib.hid hd; clear hd
    go_enter Try.func18, Try.ntmps18
    go_wp2
    go_ret
    exact ⟨by rw [HD.out]; rfl, rfl⟩
theorem due_ref (s e : Int) (w : World) (hs : I64 s) (he : I64 e) :
    Calls Try.prog 19 #[.int .i64 s, .int .i64 e] w fun r w' => r = .returned (.bool (dueB s e)) ∧ w = w' := by
  unfold I64 at hs he
  by_cases h1 : e > 0
  · by_cases h2 : s > 0
    · have p1 : 0 ≤ s := by omega
      have p2 : 1 ≤ e := by omega
      have q1 : 0 ≤ s / e := Int.ediv_nonneg p1 (by omega)
      have q2 : 0 ≤ s / e * e := Int.mul_nonneg q1 (by omega)
      have q3 : s / e * e ≤ s := Int.ediv_mul_le s (by omega)
      have q4 : s / e ≤ s := Int.ediv_le_self e p1
      have hd : dueB s e = (s - s / e * e == 0) := by
        have h := Int.mul_ediv_add_emod s e
        rw [Int.mul_comm] at h
        have h' : s - s / e * e = s % e := by omega
        simp [dueB, h1, h2, h']
      have HD := Lib.hid hd; clear hd
      go_enter Try.func19, Try.ntmps19
      go_wp2
      go_ret
      exact ⟨by rw [HD.out]; rfl, rfl⟩
    · have h2' : decide (s ≤ 0) = true := by simp; omega
      have h3' : decide (e ≤ 0) = false := by simp; omega
      have hd : dueB s e = false := by simp [dueB]; omega
      have HD := Lib.hid hd; clear hd
      go_enter Try.func19, Try.ntmps19
      go_wp2
      go_ret
      exact ⟨by rw [HD.out]; rfl, rfl⟩
  · have h2' : decide (e ≤ 0) = true := by simp; omega
    have hd : dueB s e = false := by simp [dueB]; omega
    have HD := Lib.hid hd; clear hd
    go_enter Try.func19, Try.ntmps19
    go_wp2
    go_ret
    exact ⟨by rw [HD.out]; rfl, rfl⟩

/-! ### Fits -/
def fitsB (u l z : Int) : Bool := decide (0 ≤ z) && decide (u + z ≤ 9223372036854775807) && decide (u + z ≤ l)
theorem fits_any (u l z : Int) (w : World) (hu : I64 u) (hl : I64 l) (hz : I64 z) :
    Calls Try.prog 20 #[.int .i64 u, .int .i64 l, .int .i64 z] w fun r w' => r = .returned (.bool (fitsB u l z)) ∧ w = w' := by
  unfold I64 at hu hl hz
  by_cases h1 : z < 0
  · have hd : fitsB u l z = false := by simp [fitsB]; omega
    have HD := Lib.hid hd; clear hd
    go_enter Try.func20, Try.ntmps20
    go_wp2
    go_ret
    exact ⟨by rw [HD.out]; rfl, rfl⟩
  · have g1 : decide (z < 0) = false := by simp; omega
    by_cases h2 : u + z ≤ 9223372036854775807
    · have g2 : decide (u ≤ u + z) = true := by simp; omega
      have hd : fitsB u l z = decide (u + z ≤ l) := by rw [Bool.eq_iff_iff]; simp [fitsB]; omega
      have HD := Lib.hid hd; clear hd
      go_enter Try.func20, Try.ntmps20
      go_wp2
      go_ret
      exact ⟨by rw [HD.out]; rfl, rfl⟩
    · have e1 : wrap64 (u + z) = u + z - 18446744073709551616 := by unfold wrap64; omega
      have g2 : decide (u ≤ wrap64 (u + z)) = false := by rw [e1]; simp; omega
      have hd : fitsB u l z = false := by simp [fitsB]; omega
      have HD := Lib.hid hd; clear hd e1
      go_enter Try.func20, Try.ntmps20
      go_wp2
      go_ret
      exact ⟨by rw [HD.out]; rfl, rfl⟩
theorem fits_ref (u l z : Int) (w : World) (hu : I64 u) (hl : I64 l) (hz : I64 z) :
    Calls Try.prog 21 #[.int .i64 u, .int .i64 l, .int .i64 z] w fun r w' => r = .returned (.bool (fitsB u l z)) ∧ w = w' := by
  unfold I64 at hu hl hz
  by_cases h1 : z < 0
  · have hd : fitsB u l z = false := by simp [fitsB]; omega
    have HD := Lib.hid hd; clear hd
    go_enter Try.func21, Try.ntmps21
    go_wp2
    go_ret
    exact ⟨by rw [HD.out]; rfl, rfl⟩
  · have g1 : decide (z < 0) = false := by simp; omega
    by_cases h2 : l < u
    · have hd : fitsB u l z = false := by simp [fitsB]; omega
      have HD := Lib.hid hd; clear hd
      go_enter Try.func21, Try.ntmps21
      go_wp2
      go_ret
      exact ⟨by rw [HD.out]; rfl, rfl⟩
    · have g2 : decide (l < u) = false := by simp; omega
      by_cases h3 : u < 0
      · by_cases h4 : 9223372036854775807 + u < l
        · have hd : fitsB u l z = true := by rw [Bool.eq_iff_iff]; simp [fitsB]; omega
          have HD := Lib.hid hd; clear hd
          go_enter Try.func21, Try.ntmps21
          go_wp2
          go_ret
          exact ⟨by rw [HD.out]; rfl, rfl⟩
        · have g4 : decide (9223372036854775807 + u < l) = false := by simp; omega
          have hd : fitsB u l z = decide (z ≤ l - u) := by rw [Bool.eq_iff_iff]; simp [fitsB]; omega
          have HD := Lib.hid hd; clear hd
          go_enter Try.func21, Try.ntmps21
          go_wp2
          go_ret
          exact ⟨by rw [HD.out]; rfl, rfl⟩
      · have g4 : decide (u < 0) = false := by simp; omega
        have hd : fitsB u l z = decide (z ≤ l - u) := by rw [Bool.eq_iff_iff]; simp [fitsB]; omega
        have HD := Lib.hid hd; clear hd
        go_enter Try.func21, Try.ntmps21
        go_wp2
        go_ret
        exact ⟨by rw [HD.out]; rfl, rfl⟩

theorem wrap_top : wrap64 9223372036854775808 = -9223372036854775808 := by unfold wrap64; decide
/-! ### Within -/
def linesOf (s n : Int) : Int := if s < 0 then max 0 (n + s) else n
def withinB (f s e n : Int) : Bool := decide (0 ≤ n) && (decide (n ≤ f) && (decide (e ≤ 0) || (decide (linesOf s n = 0) || decide (linesOf s n < e - max s 0 % e))))
theorem within_low (f s e n : Int) (h : n < 0 ∨ f < n) : withinB f s e n = false := by
  unfold withinB
  rcases h with h | h
  · simp [show ¬ 0 ≤ n by omega]
  · simp [show ¬ n ≤ f by omega]
theorem within_free (f s e n : Int) (h0 : 0 ≤ n) (h1 : n ≤ f) (h : e ≤ 0 ∨ linesOf s n = 0) : withinB f s e n = true := by
  unfold withinB
  rcases h with h | h <;> simp [h0, h1, h]
theorem within_at (f s e n : Int) (h0 : 0 ≤ n) (h1 : n ≤ f) (h2 : ¬ e ≤ 0) (h3 : linesOf s n ≠ 0) : withinB f s e n = decide (linesOf s n < e - max s 0 % e) := by
  unfold withinB
  simp [h0, h1, h2, h3]
theorem within_any (f s e n : Int) (w : World) (hf : I64 f) (hs : I64 s) (he : I64 e) (hn : I64 n) :
    Calls Try.prog 16 #[.int .i64 f, .int .i64 s, .int .i64 e, .int .i64 n] w fun r w' => r = .returned (.bool (withinB f s e n)) ∧ w = w' := by
  unfold I64 at hf hs he hn
  by_cases h1 : n < 0
  · have hd : withinB f s e n = false := within_low _ _ _ _ (.inl h1)
    have HD := Lib.hid hd; clear hd
    go_enter Try.func16, Try.ntmps16
    go_wp2
    go_ret
    exact ⟨by rw [HD.out]; rfl, rfl⟩
  · have g1 : decide (n < 0) = false := by simp; omega
    by_cases h2 : f < n
    · have hd : withinB f s e n = false := within_low _ _ _ _ (.inr h2)
      have HD := Lib.hid hd; clear hd
      go_enter Try.func16, Try.ntmps16
      go_wp2
      go_ret
      exact ⟨by rw [HD.out]; rfl, rfl⟩
    · have g2 : decide (f < n) = false := by simp; omega
      by_cases h3 : e ≤ 0
      · have hd : withinB f s e n = true := within_free _ _ _ _ (by omega) (by omega) (.inl h3)
        have HD := Lib.hid hd; clear hd
        go_enter Try.func16, Try.ntmps16
        go_wp2
        go_ret
        exact ⟨by rw [HD.out]; rfl, rfl⟩
      · have g3 : decide (e ≤ 0) = false := by simp; omega
        by_cases h4 : n = 0
        · subst h4
          have hd : withinB f s e 0 = true := within_free _ _ _ _ (by omega) (by omega) (.inr (by unfold linesOf; split <;> omega))
          have HD := Lib.hid hd; clear hd
          go_enter Try.func16, Try.ntmps16
          go_wp2
          go_ret
          exact ⟨by rw [HD.out]; rfl, rfl⟩
        · have g4 : (n == 0) = false := by simp; omega
          by_cases h5 : s < 0
          · by_cases h6 : s = -9223372036854775808
            · subst h6
              have e1 : wrap64 9223372036854775808 = -9223372036854775808 := wrap_top
              have g7 : decide (n + -9223372036854775808 < e) = true := by simp; omega
              have g6 : decide (n ≤ -9223372036854775808) = false := by simp; omega
              have hd : withinB f (-9223372036854775808) e n = true := within_free _ _ _ _ (by omega) (by omega) (.inr (by unfold linesOf; rw [if_pos h5]; omega))
              have HD := Lib.hid hd; clear hd
              go_enter Try.func16, Try.ntmps16
              go_wp2
              go_ret
              exact ⟨by rw [HD.out]; rfl, rfl⟩
            · by_cases h7 : n ≤ -s
              · have hd : withinB f s e n = true := within_free _ _ _ _ (by omega) (by omega) (.inr (by unfold linesOf; rw [if_pos h5]; omega))
                have HD := Lib.hid hd; clear hd
                go_enter Try.func16, Try.ntmps16
                go_wp2
                go_ret
                exact ⟨by rw [HD.out]; rfl, rfl⟩
              · have g7 : decide (n ≤ -s) = false := by simp; omega
                have el : linesOf s n = n + s := by unfold linesOf; rw [if_pos h5]; omega
                have em : max s 0 = 0 := by omega
                have hd : withinB f s e n = decide (n + s < e) := by rw [within_at _ _ _ _ (by omega) (by omega) h3 (by omega), el, em]; simp
                have HD := Lib.hid hd; clear hd el em
                go_enter Try.func16, Try.ntmps16
                go_wp2
                go_ret
                exact ⟨by rw [HD.out]; rfl, rfl⟩
          · have g5 : decide (s < 0) = false := by simp; omega
            have p1 : 0 ≤ s % e := Int.emod_nonneg _ (by omega)
            have p2 : s % e < e := Int.emod_lt_of_pos _ (by omega)
            have el : linesOf s n = n := by unfold linesOf; rw [if_neg h5]
            have em : max s 0 = s := by omega
            have hd : withinB f s e n = decide (n < e - s % e) := by rw [within_at _ _ _ _ (by omega) (by omega) h3 (by omega), el, em]
            have HD := Lib.hid hd; clear hd el em
            go_enter Try.func16, Try.ntmps16
            go_wp2
            go_ret
            exact ⟨by rw [HD.out]; rfl, rfl⟩
theorem within_ref (f s e n : Int) (w : World) (hf : I64 f) (hs : I64 s) (he : I64 e) (hn : I64 n) :
    Calls Try.prog 17 #[.int .i64 f, .int .i64 s, .int .i64 e, .int .i64 n] w fun r w' => r = .returned (.bool (withinB f s e n)) ∧ ∃ k, w' = w.drewN k := by
  unfold I64 at hf hs he hn
  by_cases h1 : n < 0
  · have hd : withinB f s e n = false := within_low _ _ _ _ (.inl h1)
    have HD := Lib.hid hd; clear hd
    go_enter Try.func17, Try.ntmps17
    go_wp2
    go_ret
    exact ⟨by rw [HD.out]; rfl, _, (World.drewN_zero _).symm⟩
  · have g1 : decide (n < 0) = false := by simp; omega
    by_cases h2 : f < n
    · have hd : withinB f s e n = false := within_low _ _ _ _ (.inr h2)
      have HD := Lib.hid hd; clear hd
      go_enter Try.func17, Try.ntmps17
      go_wp2
      go_ret
      exact ⟨by rw [HD.out]; rfl, _, (World.drewN_zero _).symm⟩
    · have g2 : decide (f < n) = false := by simp; omega
      by_cases h5 : s < 0
      · have g5 : decide (s < 0) = true := by simpa using h5
        have hM : max s 0 = 0 := by omega
        have HM := Lib.hid hM
        by_cases h8 : n + s ≤ 0
        · have hL : linesOf s n = 0 := by unfold linesOf; rw [if_pos h5]; omega
          clear hM
          by_cases h3 : e ≤ 0
          · have g3 : decide (e ≤ 0) = true := by simpa using h3
            have hd : withinB f s e n = true := within_free _ _ _ _ (by omega) (by omega) (.inl h3)
            have HD := Lib.hid hd; clear hd hL
            go_enter Try.func17, Try.ntmps17
            go_wp2
            go_ret
            exact ⟨by rw [HD.out]; rfl, _, (World.drewN_zero _).symm⟩
          · have g3 : decide (e ≤ 0) = false := by simp; omega
            have hd : withinB f s e n = true := within_free _ _ _ _ (by omega) (by omega) (.inr hL)
            have HD := Lib.hid hd; clear hd hL
            go_enter Try.func17, Try.ntmps17
            go_wp2
            go_ret
            exact ⟨by rw [HD.out]; rfl, _, (World.drewN_zero _).symm⟩
        · have hL : linesOf s n = n + s := by unfold linesOf; rw [if_pos h5]; omega
          by_cases h3 : e ≤ 0
          · have g3 : decide (e ≤ 0) = true := by simpa using h3
            have hd : withinB f s e n = true := within_free _ _ _ _ (by omega) (by omega) (.inl h3)
            have HD := Lib.hid hd; clear hd hL
            go_enter Try.func17, Try.ntmps17
            go_wp2
            go_ret
            exact ⟨by rw [HD.out]; rfl, _, (World.drewN_zero _).symm⟩
          · have g3 : decide (e ≤ 0) = false := by simp; omega
            by_cases h4 : (n + s) = 0
            · have g4 : ((n + s) == 0) = true := by simp; omega
              have hd : withinB f s e n = true := within_free _ _ _ _ (by omega) (by omega) (.inr (by omega))
              have HD := Lib.hid hd; clear hd hL
              go_enter Try.func17, Try.ntmps17
              go_wp2
              go_ret
              exact ⟨by rw [HD.out]; rfl, _, (World.drewN_zero _).symm⟩
            · have g4 : ((n + s) == 0) = false := by simp; omega
              have q1 : 0 ≤ (n + s) / e := Int.ediv_nonneg (by omega) (by omega)
              have p1 : 0 ≤ 0 % e := Int.emod_nonneg _ (by omega)
              have p2 : 0 % e < e := Int.emod_lt_of_pos _ (by omega)
              have p3 : 1 ≤ e := by omega
              by_cases h6 : (n + s) < e
              · have g5 : ((n + s) / e == 0) = true := by rw [Int.ediv_eq_zero_of_lt (by omega) h6]; rfl
                have g6 : (n + s) % e = (n + s) := Int.emod_eq_of_lt (by omega) h6
                have hd : withinB f s e n = true := by rw [within_at _ _ _ _ (by omega) (by omega) h3 (by omega), hL, hM]; simp; omega
                have HD := Lib.hid hd; clear hd hL hM
                go_enter Try.func17, Try.ntmps17
                go_wp2
                go_quiet (fail)
                go_wp2
                go_ret
                exact ⟨by rw [HD.out]; rfl, _, rfl⟩
              · have g5 : ((n + s) / e == 0) = false := by have := Int.le_ediv_of_mul_le (a := 1) (b := (n + s)) (c := e) (by omega) (by omega); simp; omega
                have hd : withinB f s e n = false := by rw [within_at _ _ _ _ (by omega) (by omega) h3 (by omega), hL, hM]; simp; omega
                have HD := Lib.hid hd; clear hd hL hM
                go_enter Try.func17, Try.ntmps17
                go_wp2
                go_quiet (fail)
                go_wp2
                go_ret
                exact ⟨by rw [HD.out]; rfl, _, rfl⟩
      · have g5 : decide (s < 0) = false := by simp; omega
        have hL : linesOf s n = n := by unfold linesOf; rw [if_neg h5]
        have hM : max s 0 = s := by omega
        by_cases h3 : e ≤ 0
        · have g3 : decide (e ≤ 0) = true := by simpa using h3
          have hd : withinB f s e n = true := within_free _ _ _ _ (by omega) (by omega) (.inl h3)
          have HD := Lib.hid hd; clear hd hL
          go_enter Try.func17, Try.ntmps17
          go_wp2
          go_ret
          exact ⟨by rw [HD.out]; rfl, _, (World.drewN_zero _).symm⟩
        · have g3 : decide (e ≤ 0) = false := by simp; omega
          by_cases h4 : n = 0
          · subst h4
            have hd : withinB f s e 0 = true := within_free _ _ _ _ (by omega) (by omega) (.inr (by omega))
            have HD := Lib.hid hd; clear hd hL
            go_enter Try.func17, Try.ntmps17
            go_wp2
            go_ret
            exact ⟨by rw [HD.out]; rfl, _, (World.drewN_zero _).symm⟩
          · have g4 : (n == 0) = false := by simp; omega
            have q1 : 0 ≤ n / e := Int.ediv_nonneg (by omega) (by omega)
            have p1 : 0 ≤ s % e := Int.emod_nonneg _ (by omega)
            have p2 : s % e < e := Int.emod_lt_of_pos _ (by omega)
            have p3 : 1 ≤ e := by omega
            by_cases h6 : n < e
            · have g5 : (n / e == 0) = true := by rw [Int.ediv_eq_zero_of_lt (by omega) h6]; rfl
              have g6 : n % e = n := Int.emod_eq_of_lt (by omega) h6
              have hd : withinB f s e n = decide (n < e - s % e) := by rw [within_at _ _ _ _ (by omega) (by omega) h3 (by omega), hL, hM]
              have HD := Lib.hid hd; clear hd hL hM
              go_enter Try.func17, Try.ntmps17
              go_wp2
              go_quiet (fail)
              go_wp2
              go_ret
              exact ⟨by rw [HD.out]; rfl, _, rfl⟩
            · have g5 : (n / e == 0) = false := by have := Int.le_ediv_of_mul_le (a := 1) (b := n) (c := e) (by omega) (by omega); simp; omega
              have hd : withinB f s e n = false := by rw [within_at _ _ _ _ (by omega) (by omega) h3 (by omega), hL, hM]; simp; omega
              have HD := Lib.hid hd; clear hd hL hM
              go_enter Try.func17, Try.ntmps17
              go_wp2
              go_quiet (fail)
              go_wp2
              go_ret
              exact ⟨by rw [HD.out]; rfl, _, rfl⟩
end Go.Proofs.Ytbbeoeoengogpaa
