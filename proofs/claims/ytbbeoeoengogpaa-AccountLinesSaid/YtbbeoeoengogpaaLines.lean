/- Lines can be executed without a stop exactly if there is fuel for each of them, and no epoch after any of them (AccountLines). No condition. -/
import Derived.Test.YtbbeoeoengogpaaA6
import Derived.Test.YtbbeoeoengogpaaAM
namespace Go.Proofs.Ytbbeoeoengogpaa
open Go.ChangeShapes Go.WideShapes Go.ChangeAt Go.RowKit
set_option linter.unusedVariables false

def fineB (f s e : Int) : Nat → Bool
  | 0 => true
  | k + 1 => fineB f s e k && (withinB (f - k) (s + k) e 1 && !dueB (s + k + 1) e)

theorem one_line (f s e : Int) (hs : 0 ≤ s) : (withinB f s e 1 && !dueB (s + 1) e) = decide (1 ≤ f ∧ (e ≤ 0 ∨ s % e + 1 < e)) := by
  rw [Bool.eq_iff_iff]
  unfold withinB dueB linesOf
  rw [if_neg (by omega), Int.max_eq_left hs]
  by_cases he : e ≤ 0
  · simp [he, show ¬ 0 < e by omega]
  · have h1 : 0 ≤ s % e := Int.emod_nonneg _ (by omega)
    have h2 : s % e < e := Int.emod_lt_of_pos _ (by omega)
    have h3 : (s + 1) % e = (s % e + 1) % e := by rw [Int.emod_add_emod]
    by_cases h4 : s % e + 1 < e
    · have h5 : (s + 1) % e = s % e + 1 := by rw [h3, Int.emod_eq_of_lt (by omega) h4]
      simp [he, h4, h5]
      omega
    · simp [he, h4]
      intro _ h6
      omega

theorem fine_is (f s e : Int) (hf : 0 ≤ f) (hs : 0 ≤ s) : ∀ n : Nat, fineB f s e n = decide ((n : Int) ≤ f ∧ (e ≤ 0 ∨ (n : Int) = 0 ∨ s % e + n < e)) := by
  intro n
  induction n with
  | zero => simp [fineB, hf]
  | succ k ih =>
    rw [fineB, ih, one_line _ _ _ (by omega), Bool.eq_iff_iff]
    simp only [Bool.and_eq_true, decide_eq_true_eq, Int.natCast_add, Int.natCast_one]
    by_cases he : e ≤ 0
    · constructor
      · rintro ⟨⟨h1, _⟩, h2, _⟩; exact ⟨by omega, .inl he⟩
      · rintro ⟨h1, _⟩; exact ⟨⟨by omega, .inl he⟩, by omega, .inl he⟩
    · have h1 : 0 ≤ s % e := Int.emod_nonneg _ (by omega)
      have h2 : s % e < e := Int.emod_lt_of_pos _ (by omega)
      have h3 : (s + k) % e = (s % e + k) % e := by rw [Int.emod_add_emod]
      constructor
      · rintro ⟨⟨a1, a2⟩, a3, a4⟩
        have a5 : s % e + k < e := by omega
        rw [Int.emod_eq_of_lt (by omega) a5] at h3
        omega
      · rintro ⟨a1, a2⟩
        have a5 : s % e + k < e := by omega
        rw [Int.emod_eq_of_lt (by omega) a5] at h3
        omega

theorem within_is (f s e : Int) (n : Nat) (hs : 0 ≤ s) : withinB f s e n = decide ((n : Int) ≤ f ∧ (e ≤ 0 ∨ (n : Int) = 0 ∨ s % e + n < e)) := by
  rw [Bool.eq_iff_iff]
  unfold withinB linesOf
  rw [if_neg (by omega), Int.max_eq_left hs]
  simp only [Bool.and_eq_true, Bool.or_eq_true, decide_eq_true_eq]
  constructor
  · rintro ⟨_, h2, h3⟩; exact ⟨h2, by omega⟩
  · rintro ⟨h2, h3⟩; exact ⟨by omega, h2, by omega⟩

set_option maxRecDepth 100000 in
set_option maxHeartbeats 1000000 in
theorem lines_walk (f s q0 q1 : Int) (hf : 0 ≤ f ∧ f ≤ 255) (hs : 0 ≤ s ∧ s ≤ 65535) (hq0 : 0 ≤ q0 ∧ q0 ≤ 255) (hq1 : 0 ≤ q1 ∧ q1 ≤ 255) (w : World) :
    Calls Try.prog 6 #[.int .u8 f, .int .u16 s, .agg #[.int .u8 q0, .int .u8 q1]] w fun e w' => e = .returned (.bool true) ∧ Below w.heap.size w w' := by
  obtain ⟨e, he⟩ : ∃ e, q0 % 40 = e := ⟨_, rfl⟩
  obtain ⟨n, hn⟩ : ∃ n : Nat, q1 % 60 = (n : Int) := ⟨(q1 % 60).toNat, by omega⟩
  have he1 : 0 ≤ e ∧ e < 40 := by omega
  have hn1 : n < 60 := by omega
  have CW := Lib.hid (fun (k : Nat) (hk : k < n) w => within_any (f - k) (s + k) e 1 w (by unfold I64; omega) (by unfold I64; omega) (by unfold I64; omega) (by unfold I64; omega))
  have CD := Lib.hid (fun (k : Nat) (hk : k < n) w => due_any (s + k + 1) e w (by unfold I64; omega) (by unfold I64; omega))
  have C1 := fun w => within_any f s e n w (by unfold I64; omega) (by unfold I64; omega) (by unfold I64; omega) (by unfold I64; omega)
  have C2 := fun w => within_any f s e 0 w (by unfold I64; omega) (by unfold I64; omega) (by unfold I64; omega) (by unfold I64; omega)
  have e1 : withinB f s e n = fineB f s e n := by rw [within_is _ _ _ _ hs.1, fine_is _ _ _ hf.1 hs.1]
  have e2 : withinB f s e 0 = true := within_free _ _ _ _ (by omega) (by omega) (.inr (by unfold linesOf; rw [if_neg (by omega)]))
  rw [e1] at C1
  rw [e2] at C2
  have C1h := Lib.hid C1
  have C2h := Lib.hid C2
  clear C1 C2 e1 e2
  go_enter Try.func6, Try.ntmps6
  go_wp2_with (go_at_call 11; refine (sanity_any _).mono ?_; rintro e w1 ⟨rfl, hb1⟩)
  have hc0 : w1.cell? ⟨w.heap.size, 0, none⟩ = some (.int .u8 q0) := (hb1.cell (p := ⟨w.heap.size, 0, none⟩) (by simp)).trans (by go_simp)
  have hc1 : w1.cell? ⟨w.heap.size, 1, none⟩ = some (.int .u8 q1) := (hb1.cell (p := ⟨w.heap.size, 1, none⟩) (by simp)).trans (by go_simp)
  have HB := Lib.hid (below_then (below_alloc _) hb1)
  clear hb1
  go_region
  rw [he, hn]
  go_wp2
  have HE := Lib.hid he
  have HN := Lib.hid hn
  clear he hn
  go_loop [10, 11, 12, 27] (fun l a fi i => ∃ k : Nat, k ≤ n ∧ i = .int .i64 k ∧ l = .int .i64 (f - k) ∧ a = .int .i64 (s + k) ∧ fi = .bool (fineB f s e k)) (fun _ _ _ i => n - (intOf i).toNat)
  case atStart => exact ⟨0, by omega, rfl, by simp, by simp, rfl⟩
  case round =>
    obtain ⟨k, hk, rfl, rfl, rfl, rfl⟩ := hrel
    by_cases hlt : k < n
    · have cw := CW.out k hlt
      have cd := CD.out k hlt
      have hfin : fineB f s e (k + 1) = (fineB f s e k && (withinB (f - k) (s + k) e 1 && !dueB (s + k + 1) e)) := rfl
      obtain ⟨x, hx⟩ : ∃ x, fineB f s e k = x := ⟨_, rfl⟩
      obtain ⟨y, hy⟩ : ∃ y, withinB (f - k) (s + k) e 1 = y := ⟨_, rfl⟩
      obtain ⟨z, hz⟩ : ∃ z, dueB (s + k + 1) e = z := ⟨_, rfl⟩
      rw [hy] at cw
      rw [hz] at cd
      rw [hx, hy, hz] at hfin
      rw [hx]
      have HF := Lib.hid hfin
      have HW := Lib.hid cw
      have HD := Lib.hid cd
      clear hx hy hz hfin cw cd
      cases x with
      | false =>
        go_wp2_with fail
        go_round
        case rel => exact ⟨k + 1, by omega, by go_num, congrArg _ (by omega), congrArg _ (by omega), by rw [HF.out]; rfl⟩
        case measure => simp [intOf]; omega
      | true =>
        cases y with
        | false =>
          go_wp2_with fail
          refine (HW.out _).mono ?_
          rintro e1 w2 ⟨rfl, rfl⟩
          go_wp2_with fail
          go_round
          case rel => exact ⟨k + 1, by omega, by go_num, congrArg _ (by omega), congrArg _ (by omega), by rw [HF.out]; rfl⟩
          case measure => simp [intOf]; omega
        | true =>
          cases z with
          | false =>
            go_wp2_with fail
            refine (HW.out _).mono ?_
            rintro e1 w2 ⟨rfl, rfl⟩
            go_wp2_with fail
            refine (HD.out _).mono ?_
            rintro e1 w2 ⟨rfl, rfl⟩
            go_wp2_with fail
            go_round
            case rel => exact ⟨k + 1, by omega, by go_num, congrArg _ (by omega), congrArg _ (by omega), by rw [HF.out]; rfl⟩
            case measure => simp [intOf]; omega
          | true =>
            go_wp2_with fail
            refine (HW.out _).mono ?_
            rintro e1 w2 ⟨rfl, rfl⟩
            go_wp2_with fail
            refine (HD.out _).mono ?_
            rintro e1 w2 ⟨rfl, rfl⟩
            go_wp2_with fail
            go_round
            case rel => exact ⟨k + 1, by omega, by go_num, congrArg _ (by omega), congrArg _ (by omega), by rw [HF.out]; rfl⟩
            case measure => simp [intOf]; omega
    · obtain rfl : k = n := by omega
      obtain ⟨x, hx⟩ : ∃ x, fineB f s e k = x := ⟨_, rfl⟩
      have c1 := C1h.out
      rw [hx] at c1
      rw [hx]
      have HW := Lib.hid c1
      clear hx c1
      cases x with
      | false =>
        go_wp2_with fail
        refine (HW.out _).mono ?_
        rintro e1 w2 ⟨rfl, rfl⟩
        go_wp2_with fail
        refine (C2h.out _).mono ?_
        rintro e1 w2 ⟨rfl, rfl⟩
        go_wp2_with fail
        go_ret
        exact ⟨rfl, below_drewN HB.out _⟩
      | true =>
        go_wp2_with fail
        refine (HW.out _).mono ?_
        rintro e1 w2 ⟨rfl, rfl⟩
        go_wp2_with fail
        refine (C2h.out _).mono ?_
        rintro e1 w2 ⟨rfl, rfl⟩
        go_wp2_with fail
        go_ret
        exact ⟨rfl, below_drewN HB.out _⟩
set_option maxRecDepth 100000 in
theorem lines_lifted (os : Os) (started : os.Started) (H : Type) (enc : TypeId × Value → H) :
    ReturnsInHanded {} Try.checked os 6 .any (Rows.accountLinesSpec.pre6 enc Try.prog Try.f6 Rows.accountLinesRow.domain false) (Rows.accountLinesSpec.post enc Try.prog Try.f6 false true false false) := by
  refine law_lift (C := Try.checked) Try.own started (by kernel_rfl) Try.func6
    (ChangeSpec.witness6 (enc := enc) (C := Try.checked) false ⟨#[], #[.int .u8 0, .int .u16 0, .agg #[.int .u8 0, .int .u8 0]], []⟩ 8 (by kernel_rfl) (by kernel_rfl) (by kernel_rfl) (by kernel_rfl))
    Try.laidOut (by kernel_rfl) rfl rfl Try.underlying4 ?_ ?_
  · intro ds hl
    match ds, hl with
    | [d1, d2, d3], _ => exact ⟨rfl, rfl, rfl⟩
  · intro W base args ds p hval0 hA0 hlt hsz0
    have hval : ∀ (j : Nat) t v, Try.f6.params[j]? = some t → args[j]? = some v → Value.okWide Try.prog W .any base t v := hval0
    have hA : DataW.TrodAll enc Try.prog W 0 (fun _ => true) true Try.f6.params.toList args.toList ds p := hA0
    have hsz : (DataW.weightsEach Try.prog Try.f6.params.toList ds).all (· ≤ reachBytes) = true := hsz0
    rw [Try.params6] at hA hval hsz
    clear hA0 hval0 hsz0
    obtain ⟨v0, v1, v2, d0, d1, d2, p0, p1, p2, rfl, rfl, rfl, h0, h1, h2⟩ := trodAll_three hA
    obtain ⟨f, rfl, rfl, rfl, wf⟩ := open_int Try.underlying5 (hval 0 5 v0 rfl rfl) h0
    obtain ⟨s, rfl, rfl, rfl, ws⟩ := open_int Try.underlying40 (hval 1 40 v1 rfl rfl) h1
    obtain ⟨q0, q1, rfl, wq0, wq1⟩ := open_int_array2 Try.underlying41 Try.underlying5 (by kernel_rfl) (by kernel_rfl) (hval 2 41 v2 rfl rfl) h2
    exact lines_walk f s q0 q1 (bd_u8 wf) (bd_u16 ws) (bd_u8 wq0) (bd_u8 wq1) W

/-- The statement. -/
theorem lines_holds : Rows.AccountLinesSaid :=
  OpenClaim.holds_of_wide 6 Try.f6 rfl rfl rfl rfl rfl rfl rfl ⟨rfl, rfl, rfl, rfl, rfl⟩ rfl rfl rfl rfl rfl (by kernel_rfl) Try.func6 (by kernel_rfl)
    (of_decide_eq_true (by kernel_rfl)) (by unfold Func.isWrapper; first | (rw [if_pos (by decide +kernel)]; kernel_rfl) | (rw [if_neg (by decide +kernel)]; exact ⟨rfl, rfl⟩))
    (fun os started H enc _ => lines_lifted os started H enc)
#print axioms lines_holds
end Go.Proofs.Ytbbeoeoengogpaa
