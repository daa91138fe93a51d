/- Of epoch lines that follow each other exactly one has an epoch after it (AccountDue). No condition. -/
import Derived.Test.YtbbeoeoengogpaaA6
import Derived.Test.YtbbeoeoengogpaaAM
namespace Go.Proofs.Ytbbeoeoengogpaa
open Go.ChangeShapes Go.WideShapes Go.ChangeAt Go.RowKit
set_option linter.unusedVariables false

def cnt (r e : Int) (k : Nat) : Int := if e ≤ r + k then 1 else 0
theorem due_at (s e : Int) (k : Nat) (hs : 0 ≤ s) (he : 1 ≤ e) (hk : (k : Int) < e) : dueB (s + 1 + k) e = decide (s % e + k + 1 = e) := by
  have h1 : 0 ≤ s % e := Int.emod_nonneg _ (by omega)
  have h2 : s % e < e := Int.emod_lt_of_pos _ (by omega)
  have h3 : (s + 1 + k) % e = (s % e + (1 + k)) % e := by rw [Int.emod_add_emod, Int.add_assoc]
  unfold dueB
  rw [Bool.eq_iff_iff]
  simp only [Bool.and_eq_true, decide_eq_true_eq, beq_iff_eq, h3]
  constructor
  · rintro ⟨_, _, h⟩
    by_cases hlt : s % e + (1 + k) < e
    · rw [Int.emod_eq_of_lt (by omega) hlt] at h
      omega
    · have : (s % e + (1 + k)) % e = (s % e + (1 + k) - e) % e := by rw [Int.sub_emod_right]
      rw [this, Int.emod_eq_of_lt (by omega) (by omega)] at h
      omega
  · intro h
    refine ⟨by omega, by omega, ?_⟩
    have : s % e + (1 + k) = e := by omega
    rw [this, Int.emod_self]

set_option maxRecDepth 100000 in
theorem due_walk (E s : Int) (hE : 0 ≤ E ∧ E ≤ 255) (hs : 0 ≤ s ∧ s ≤ 4294967295) (w : World) :
    Calls Try.prog 7 #[.int .u8 E, .int .u32 s] w fun e w' => e = .returned (.bool true) ∧ Below w.heap.size w w' := by
  obtain ⟨e, he⟩ : ∃ e, E % 50 + 1 = e := ⟨_, rfl⟩
  have he1 : 1 ≤ e ∧ e ≤ 50 := by omega
  have m0 : 0 ≤ e * (1 + s) := Int.mul_nonneg (by omega) (by omega)
  have m1 : e * (1 + s) ≤ 50 * 4294967296 := Int.mul_le_mul (by omega) (by omega) (by omega) (by omega)
  have DA := Lib.hid (fun (k : Nat) (hk : (k : Int) < e) w => due_any (s + 1 + k) e w (by unfold I64; omega) (by unfold I64; omega))
  have D1 := fun w => due_any (-e) e w (by unfold I64; omega) (by unfold I64; omega)
  have D2 := fun w => due_any 0 e w (by unfold I64; omega) (by unfold I64; omega)
  have D3 := fun w => due_any (e * (1 + s)) e w (by unfold I64; omega) (by unfold I64; omega)
  have d1 : dueB (-e) e = false := by simp [dueB]; omega
  have d2 : dueB 0 e = false := by simp [dueB]
  have d3 : dueB (e * (1 + s)) e = true := by
    have : 0 < e * (1 + s) := Int.mul_pos (by omega) (by omega)
    simp [dueB, this]; omega
  rw [d1] at D1
  rw [d2] at D2
  rw [d3] at D3
  have D1h := Lib.hid D1
  have D2h := Lib.hid D2
  have D3h := Lib.hid D3
  clear D1 D2 D3 d1 d2 d3
  have r0 : 0 ≤ s % e := Int.emod_nonneg _ (by omega)
  have r1 : s % e < e := Int.emod_lt_of_pos _ (by omega)
  go_enter Try.func7, Try.ntmps7
  go_wp2_with (go_at_call 11; refine (sanity_any _).mono ?_; rintro e w1 ⟨rfl, hb1⟩)
  have HB := Lib.hid hb1; clear hb1
  have HE := Lib.hid he; clear he
  go_loop [7, 15] (fun m i => ∃ k : Nat, (k : Int) ≤ e ∧ i = .int .i64 k ∧ m = .int .i64 (cnt (s % e) e k)) (fun _ i => e.toNat - (intOf i).toNat)
  case atStart => exact ⟨0, by omega, rfl, by unfold cnt; rw [if_neg (by omega)]⟩
  case round =>
    obtain ⟨k, hk, rfl, rfl⟩ := hrel
    by_cases hlt : (k : Int) < e
    · have C := DA.out k hlt
      rw [due_at s e k hs.1 he1.1 hlt] at C
      by_cases hh : s % e + k + 1 = e
      · simp only [hh, decide_true] at C
        have c0 : cnt (s % e) e k = 0 := by unfold cnt; rw [if_neg (by omega)]
        have c1 : cnt (s % e) e (k + 1) = 1 := by unfold cnt; rw [if_pos (by omega)]
        have CH := Lib.hid C
        have HH := Lib.hid hh
        have H1 := Lib.hid c1
        clear C hh c1
        go_wp2_with fail
        refine (CH.out _).mono ?_
        rintro e1 w2 ⟨rfl, rfl⟩
        go_wp2_with fail
        go_round
        case rel => exact ⟨k + 1, by omega, by go_num, by rw [H1.out]⟩
        case measure => simp [intOf]; omega
      · simp only [hh, decide_false] at C
        have c1 : cnt (s % e) e (k + 1) = cnt (s % e) e k := by
          unfold cnt
          by_cases h5 : e ≤ s % e + k
          · rw [if_pos h5, if_pos (by omega)]
          · rw [if_neg h5, if_neg (by omega)]
        have CH := Lib.hid C
        have H1 := Lib.hid c1
        clear C hh c1
        go_wp2_with fail
        refine (CH.out _).mono ?_
        rintro e1 w2 ⟨rfl, rfl⟩
        go_wp2_with fail
        go_round
        case rel => exact ⟨k + 1, by omega, by go_num, by rw [H1.out]⟩
        case measure => simp [intOf]; omega
    · have c1 : cnt (s % e) e k = 1 := by unfold cnt; rw [if_pos (by omega)]
      go_wp2_with fail
      refine (D1h.out _).mono ?_
      rintro e1 w2 ⟨rfl, rfl⟩
      go_wp2_with fail
      refine (D2h.out _).mono ?_
      rintro e1 w2 ⟨rfl, rfl⟩
      go_wp2_with fail
      refine (D3h.out _).mono ?_
      rintro e1 w2 ⟨rfl, rfl⟩
      go_wp2_with fail
      go_ret
      exact ⟨rfl, HB.out⟩
set_option maxRecDepth 100000 in
theorem due_lifted (os : Os) (started : os.Started) (H : Type) (enc : TypeId × Value → H) :
    ReturnsInHanded {} Try.checked os 7 .any (Rows.accountDueSpec.pre6 enc Try.prog Try.f7 Rows.accountDueRow.domain false) (Rows.accountDueSpec.post enc Try.prog Try.f7 false true false false) := by
  refine law_lift (C := Try.checked) Try.own started (by kernel_rfl) Try.func7
    (ChangeSpec.witness6 (enc := enc) (C := Try.checked) false ⟨#[], #[.int .u8 0, .int .u32 0], []⟩ 8 (by kernel_rfl) (by kernel_rfl) (by kernel_rfl) (by kernel_rfl))
    Try.laidOut (by kernel_rfl) rfl rfl Try.underlying4 ?_ ?_
  · intro ds hl
    match ds, hl with
    | [d1, d2], _ => exact ⟨rfl, rfl, rfl⟩
  · intro W base args ds p hval0 hA0 hlt hsz0
    have hval : ∀ (j : Nat) t v, Try.f7.params[j]? = some t → args[j]? = some v → Value.okWide Try.prog W .any base t v := hval0
    have hA : DataW.TrodAll enc Try.prog W 0 (fun _ => true) true Try.f7.params.toList args.toList ds p := hA0
    have hsz : (DataW.weightsEach Try.prog Try.f7.params.toList ds).all (· ≤ reachBytes) = true := hsz0
    rw [Try.params7] at hA hval hsz
    clear hA0 hval0 hsz0
    obtain ⟨v0, v1, d0, d1, p0, p1, rfl, rfl, rfl, h0, h1⟩ := trodAll_two hA
    obtain ⟨E, rfl, rfl, rfl, wE⟩ := open_int Try.underlying5 (hval 0 5 v0 rfl rfl) h0
    obtain ⟨s, rfl, rfl, rfl, ws⟩ := open_int Try.underlying31 (hval 1 31 v1 rfl rfl) h1
    exact due_walk E s (bd_u8 wE) (bd_u32 ws) W

/-- The statement. -/
theorem due_holds : Rows.AccountDueSaid :=
  OpenClaim.holds_of_wide 7 Try.f7 rfl rfl rfl rfl rfl rfl rfl ⟨rfl, rfl, rfl, rfl, rfl⟩ rfl rfl rfl rfl rfl (by kernel_rfl) Try.func7 (by kernel_rfl)
    (of_decide_eq_true (by kernel_rfl)) (by unfold Func.isWrapper; first | (rw [if_pos (by decide +kernel)]; kernel_rfl) | (rw [if_neg (by decide +kernel)]; exact ⟨rfl, rfl⟩))
    (fun os started H enc _ => due_lifted os started H enc)
#print axioms due_holds
end Go.Proofs.Ytbbeoeoengogpaa
