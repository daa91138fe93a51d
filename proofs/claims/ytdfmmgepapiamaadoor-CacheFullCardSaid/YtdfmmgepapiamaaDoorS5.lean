/- sanity, of the cache's laws. -/
import Derived.Test.YtdfmmgepapiamaaDoorS4
namespace Go.Proofs.YtdfmmgepapiamaaDoor
open Go.RowKit
set_option linter.unusedVariables false

theorem few_lit {l : List (Int × Int)} {f : Bool} {h m : Int} (a : h ≤ 999999) (b : m ≤ 999999) : CS.few ⟨l, f, h, m⟩ 999999 := ⟨a, b⟩
theorem IsSite.other {w w' : World} {p q : Nat} {s : CS} (h : IsSite w q s) (hk : Keep (fun k => k = p) w w') (hne : q ≠ p) : IsSite w' q s := h.keep hk hne
theorem since_at {w w' : World} {p n : Nat} (hk : Keep (fun k => k = p) w w') (hn : n ≤ p) : Since n w w' := Keep.mono hk (fun k hk => by omega)
def lk (k : Nat) : List (Int × Int) := (List.range k).map fun i => (((i : Nat) : Int) + 1, ((i : Nat) : Int) + 5)
theorem lk_learn : ∀ k, k < 4 → (⟨lk k, false, 0, 0⟩ : CS).learn ((k : Int) + 1) ((k : Int) + 5) = (0, ⟨lk (k + 1), false, 0, 0⟩) := by
  intro k hk
  have : k = 0 ∨ k = 1 ∨ k = 2 ∨ k = 3 := by omega
  rcases this with rfl | rfl | rfl | rfl <;> rfl
theorem dig_text : (⟨[(3, 1), (4, 1)], false, 0, 0⟩ : CS).text = [51, 58, 49, 32, 52, 58, 49] := by
  have h : ∀ i : Nat, i < 10 → Lib.itoa (i : Int) = [UInt8.ofNat (48 + i)] := fun i hi => by rw [Lib.itoa_nonneg, Lib.decDigits_one hi]
  have e1 : Lib.itoa 1 = [49] := h 1 (by omega)
  have e3 : Lib.itoa 3 = [51] := h 3 (by omega)
  have e4 : Lib.itoa 4 = [52] := h 4 (by omega)
  show joinB [Lib.itoa 3 ++ [58] ++ Lib.itoa 1, Lib.itoa 4 ++ [58] ++ Lib.itoa 1] [32] = _
  rw [e1, e3, e4]
  rfl
set_option maxHeartbeats 4000000 in
set_option maxRecDepth 100000 in
theorem sanity_any (w : World) (hT : TB w) : Calls Tryd.prog 10 #[] w fun e w' => e = .returned (.bool true) ∧ Since w.heap.size w w' := by
  have T := Lib.hid hT
  have h0 := hT.pos
  clear hT
  go_enter Tryd.func10, Tryd.ntmps10
  go_wp2_with fail
  ((with_reducible refine (new_site w).mono ?_); rintro e w1 ⟨rfl, hs1, hk1⟩)
  have P1 := Lib.hid hs1; have S1 := Lib.hid hk1; have L1 := Lib.hid hs1.lt; clear hs1 hk1
  go_wp2_with fail
  have h2 := find_any P1.out 7 (by exact ⟨by decide, by decide⟩)
  rw [show CS.new.find 7 = ((0, false), ⟨[], false, 0, 1⟩) from rfl] at h2
  ((with_reducible refine h2.mono ?_); rintro e w2 ⟨rfl, hs2, hk2⟩)
  have P2 := Lib.hid hs2; have S2 := Lib.hid (Keep.trans S1.out (since_at hk2 (Nat.le_refl _))); have L2 := Lib.hid hs2.lt; clear hs2 hk2 h2 P1 S1
  go_wp2_with fail
  have h3 := learn_any P2.out 7 2 (by decide) (by decide)
  rw [show (⟨[], false, 0, 1⟩ : CS).learn 7 2 = (0, ⟨[(7, 2)], false, 0, 1⟩) from rfl] at h3
  ((with_reducible refine h3.mono ?_); rintro e w3 ⟨rfl, hs3, hk3⟩)
  have P3 := Lib.hid hs3; have S3 := Lib.hid (Keep.trans S2.out (since_at hk3 (Nat.le_refl _))); clear hs3 hk3 h3 P2 S2
  go_wp2_with fail
  have h4 := find_any P3.out 7 (by exact ⟨by decide, by decide⟩)
  rw [show (⟨[(7, 2)], false, 0, 1⟩ : CS).find 7 = ((2, true), ⟨[(7, 2)], false, 1, 1⟩) from rfl] at h4
  ((with_reducible refine h4.mono ?_); rintro e w4 ⟨rfl, hs4, hk4⟩)
  have P4 := Lib.hid hs4; have S4 := Lib.hid (Keep.trans S3.out (since_at hk4 (Nat.le_refl _))); clear hs4 hk4 h4 P3 S3
  go_wp2_with fail
  ((with_reducible refine (counts_any P4.out).mono ?_); rintro e w5 ⟨rfl, k5, rfl⟩)
  have S5 := Lib.hid (Keep.trans S4.out (since_draw w.heap.size k5 w4))
  obtain ⟨w5, hw5⟩ : ∃ w5, w4.drewN k5 = w5 := ⟨_, rfl⟩
  rw [hw5] at S5 ⊢
  clear hw5 P4 S4
  go_wp2_with fail
  ((with_reducible refine (new_site w5).mono ?_); rintro e w6 ⟨rfl, hs6, hk6⟩)
  have P6 := Lib.hid hs6; have S6 := Lib.hid (Keep.trans S5.out (Since.mono hk6 S5.out.size)); have Z5 := S5.out.size; have L6 := hs6.lt; clear hs6 hk6
  obtain ⟨p, hp⟩ : ∃ p, w5.heap.size = p := ⟨_, rfl⟩
  rw [hp] at P6 L6 Z5 ⊢
  clear hp S5
  go_wp2_with fail
  ((with_reducible refine (new_site w6).mono ?_); rintro e w7 ⟨rfl, hs7, hk7⟩)
  have P7 := Lib.hid (P6.out.since hk7 L6); have Q7 := Lib.hid hs7; have S7 := Lib.hid (Keep.trans S6.out (Since.mono hk7 S6.out.size)); clear hs7 hk7 P6
  obtain ⟨q, hq⟩ : ∃ q, w6.heap.size = q := ⟨_, rfl⟩
  rw [hq] at Q7 L6 ⊢
  clear hq S6
  go_wp2_with fail
  go_loopw [56] (fun i wr => ∃ k : Nat, k ≤ 4 ∧ i = .int .i64 (k : Int) ∧ IsSite wr p ⟨lk k, false, 0, 0⟩ ∧ IsSite wr q CS.new ∧ Since w.heap.size w wr) (fun i _ => 4 - (intOf i).toNat)
  case atStart => exact ⟨0, by omega, rfl, P7.out, Q7.out, S7.out⟩
  case round =>
    obtain ⟨k, hk, rfl, hp, hq, hs⟩ := hrel
    obtain ⟨wo, rfl⟩ : ∃ wo : World, wo = wr := ⟨_, rfl⟩
    have P8 := Lib.hid hp; have Q8 := Lib.hid hq; have S8 := Lib.hid hs
    clear hp hq hs P7 Q7 S7
    by_cases hlt : k < 4
    · have h9 := learn_any P8.out ((k : Int) + 1) ((k : Int) + 5) (by omega) (by omega)
      rw [lk_learn k hlt] at h9
      have H9 := Lib.hid h9
      clear h9
      have hb : decide ((k : Int) < 4) = true := by simp; omega
      go_wp2_with fail
      ((with_reducible refine H9.out.mono ?_); rintro e w9 ⟨rfl, hs9, hk9⟩)
      have P9 := Lib.hid hs9; have Q9 := Lib.hid (Q8.out.other hk9 (by omega)); have S9 := Lib.hid (Keep.trans S8.out (since_at hk9 Z5)); clear hs9 hk9 H9 P8 Q8 S8
      go_wp2_with fail
      exact ⟨⟨k + 1, by omega, by go_num, P9.out, Q9.out, S9.out⟩, by simp [intOf]; omega⟩
    · obtain rfl : k = 4 := by omega
      have hst := state_any P8.out
      rw [show (⟨lk 4, false, 0, 0⟩ : CS).state = 2 from rfl] at hst
      have HST := Lib.hid hst
      clear hst hlt
      go_wp2_with fail
      ((with_reducible refine HST.out.mono ?_); rintro e w9 ⟨rfl, rfl⟩)
      clear HST
      go_wp2_with fail
      have h9 := learn_any P8.out 5 9 (by decide) (by decide)
      rw [show (⟨lk 4, false, 0, 0⟩ : CS).learn 5 9 = (2, ⟨[], true, 0, 0⟩) from rfl] at h9
      ((with_reducible refine h9.mono ?_); rintro e w9 ⟨rfl, hs9, hk9⟩)
      have P9 := Lib.hid hs9; have Q9 := Lib.hid (Q8.out.other hk9 (by omega)); have S9 := Lib.hid (Keep.trans S8.out (since_at hk9 Z5)); clear hs9 hk9 h9 P8 Q8 S8
      go_wp2_with fail
      have h10 := state_any P9.out
      rw [show (⟨[], true, 0, 0⟩ : CS).state = 3 from rfl] at h10
      ((with_reducible refine h10.mono ?_); rintro e w10 ⟨rfl, rfl⟩)
      clear h10
      go_wp2_with fail
      have h11 := text_any P9.out (T.out.since S9.out h0)
      rw [show sb (⟨[], true, 0, 0⟩ : CS).text = ⟨#[102, 117, 108, 108]⟩ from rfl] at h11
      ((with_reducible refine h11.mono ?_); rintro e w11 ⟨rfl, hk11⟩)
      have P11 := Lib.hid (P9.out.since hk11 P9.out.lt); have Q11 := Lib.hid (Q9.out.since hk11 Q9.out.lt); have S11 := Lib.hid (Keep.trans S9.out (Since.mono hk11 S9.out.size)); clear hk11 h11 P9 Q9 S9
      go_wp2_with fail
      ((with_reducible refine (shapes_any P11.out).mono ?_); rintro e w12 ⟨v, rfl, ho12, hk12⟩)
      obtain ⟨A12, c12, rfl⟩ := own_slice ho12
      have Q12 := Lib.hid (Q11.out.since hk12 Q11.out.lt); have S12 := Lib.hid (Keep.trans S11.out (Since.mono hk12 S11.out.size)); clear ho12 hk12 P11 Q11 S11
      go_wp2_with fail
      have h13 := learn_any Q12.out 3 0 (by decide) (by decide)
      rw [show CS.new.learn 3 0 = (0, ⟨[(3, 0)], false, 0, 0⟩) from rfl] at h13
      ((with_reducible refine h13.mono ?_); rintro e w13 ⟨rfl, hs13, hk13⟩)
      have Q13 := Lib.hid hs13; have S13 := Lib.hid (Keep.trans S12.out (since_at hk13 (by omega))); clear hs13 hk13 h13 Q12 S12
      go_wp2_with fail
      have h14 := learn_any Q13.out 3 1 (by decide) (by decide)
      rw [show (⟨[(3, 0)], false, 0, 0⟩ : CS).learn 3 1 = (0, ⟨[(3, 1)], false, 0, 0⟩) from rfl] at h14
      ((with_reducible refine h14.mono ?_); rintro e w14 ⟨rfl, hs14, hk14⟩)
      have Q14 := Lib.hid hs14; have S14 := Lib.hid (Keep.trans S13.out (since_at hk14 (by omega))); clear hs14 hk14 h14 Q13 S13
      go_wp2_with fail
      have h15 := learn_any Q14.out 4 1 (by decide) (by decide)
      rw [show (⟨[(3, 1)], false, 0, 0⟩ : CS).learn 4 1 = (0, ⟨[(3, 1), (4, 1)], false, 0, 0⟩) from rfl] at h15
      ((with_reducible refine h15.mono ?_); rintro e w15 ⟨rfl, hs15, hk15⟩)
      have Q15 := Lib.hid hs15; have S15 := Lib.hid (Keep.trans S14.out (since_at hk15 (by omega))); clear hs15 hk15 h15 Q14 S14
      go_wp2_with fail
      have h16 := text_any Q15.out (T.out.since S15.out h0)
      rw [dig_text, show sb [51, 58, 49, 32, 52, 58, 49] = ⟨#[51, 58, 49, 32, 52, 58, 49]⟩ from rfl] at h16
      ((with_reducible refine h16.mono ?_); rintro e w16 ⟨rfl, hk16⟩)
      have S16 := Lib.hid (Keep.trans S15.out (Since.mono hk16 S15.out.size)); clear hk16 h16 Q15 S15
      go_wp2_with fail
      go_ret
      exact ⟨rfl, S16.out⟩
end Go.Proofs.YtdfmmgepapiamaaDoor
