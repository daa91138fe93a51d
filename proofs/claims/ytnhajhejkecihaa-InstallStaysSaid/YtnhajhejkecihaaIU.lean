/- Install: Free, owe, find, Leave. -/
import Derived.Test.YtnhajhejkecihaaIT
namespace Go.Proofs.Ytnhajhejkecihaa
open Go.RowKit Go.Lib
set_option linter.unusedVariables false

/-- How many of the first k lines are free. -/
def frees (P : Nat → Bool) (k : Nat) : Nat := (List.range k).countP fun i => !P i
theorem frees_step (P : Nat → Bool) (k : Nat) : frees P (k + 1) = frees P k + if P k then 0 else 1 := by
  unfold frees
  rw [List.range_succ, List.countP_append]
  cases h : P k <;> simp [h]
theorem frees_le (P : Nat → Bool) (k : Nat) : frees P k ≤ k := by
  have := List.countP_le_length (p := fun i => !P i) (l := List.range k)
  simpa [frees] using this
theorem run_index_tk (P : Nat → Bool) {k : Nat} (hk : k < 256) (W : World) : (Instr.index 61 (.agg (tk P).toArray) (.int .i64 (k : Int))).run Try.prog W = .ok (.bool (P k)) W := by
  have h4 : (sizeOf 4).run Try.prog W = .ok 1 W := by kernel_rfl
  have h5 : k < (tk P).length := by rw [tk_length]; exact hk
  have h6 : (tk P)[k] = .bool (P k) := by
    have := tk_at P hk
    rw [List.getElem?_eq_getElem h5] at this
    exact Option.some.inj this
  simp [Instr.index, run_underlying Try.underlying61, asIntOf, h4, go_sem, part, Sem.run_bind, h5, h6]
  intro h
  omega
set_option maxRecDepth 100000 in
set_option maxHeartbeats 4000000 in
theorem free_any {n : Nat} {w : World} {p : Nat} {r : SR} {s : MS} (h : IsStore n w p r s) : Calls Try.prog 10 #[.pointer (some ⟨p, 0, none⟩)] w fun e w' => e = .returned (.int .i64 ((16 * frees (takenB s.all) 256 : Nat) : Int)) ∧ Since w.heap.size w w' := by
  have HC := Lib.hid (closed_any h)
  have HT := Lib.hid (taken_any h)
  clear h
  obtain ⟨P, hP⟩ : ∃ P, takenB s.all = P := ⟨_, rfl⟩
  rw [hP] at HT
  rw [hP]
  clear hP
  go_enter Try.func10, Try.ntmps10
  go_wp2_with fail
  ((with_reducible refine HC.out.mono ?_); rintro e w' ⟨rfl, rfl⟩)
  clear HC
  go_wp2_with fail
  ((with_reducible refine HT.out.mono ?_); rintro e w1 ⟨rfl, hk1⟩)
  have K1 := Lib.hid hk1
  clear hk1 HT
  obtain ⟨T, hT⟩ : ∃ T, tk P = T := ⟨_, rfl⟩
  have HTT := Lib.hid hT
  rw [hT]
  clear hT
  go_wp2_with fail
  go_loopw [3, 10] (fun m i wr => ∃ k : Nat, k ≤ 256 ∧ i = .int .i64 (k : Int) ∧ ∃ f : Nat, f ≤ k ∧ m = .int .i64 (((16 * f : Nat)) : Int) ∧ Hid (frees P k = f) ∧ Hid (Since w.heap.size w wr)) (fun _ i _ => 256 + 1 - (intOf i).toNat)
  case atStart => exact ⟨0, by omega, rfl, 0, by omega, rfl, Lib.hid rfl, K1⟩
  case round =>
    obtain ⟨k, hk, rfl, f, hf, rfl, HF, KK⟩ := hrel
    obtain ⟨wo, rfl⟩ : ∃ wo : World, wo = wr := ⟨_, rfl⟩
    clear K1
    by_cases hlt : k < 256
    · have hb : decide ((k : Int) < 256) = true := by simp; omega
      have hki : (k : Int) < 256 := by omega
      have hix : ∀ W, (Instr.index 61 (.agg T.toArray) (.int .i64 (k : Int))).run Try.prog W = .ok (.bool (P k)) W := fun W => by rw [← HTT.out]; exact run_index_tk P hlt W
      have hst := frees_step P k
      cases hPk : P k with
      | true =>
        rw [hPk, HF.out] at hst
        rw [hPk] at hix
        have HS := Lib.hid (show frees P (k + 1) = f from hst)
        clear hst hPk
        go_wp2_with fail
        exact ⟨⟨k + 1, by omega, by go_num, f, by omega, rfl, HS, KK⟩, by simp [intOf]; omega⟩
      | false =>
        rw [hPk, HF.out] at hst
        rw [hPk] at hix
        have HS := Lib.hid (show frees P (k + 1) = f + 1 from hst)
        clear hst hPk
        go_wp2_with fail
        exact ⟨⟨k + 1, by omega, by go_num, f + 1, by omega, by go_num, HS, KK⟩, by simp [intOf]; omega⟩
    · obtain rfl : k = 256 := by omega
      have HF2 := HF.out
      clear HF
      subst HF2
      go_wp2_with fail
      go_ret
      exact ⟨rfl, KK.out⟩
end Go.Proofs.Ytnhajhejkecihaa
