/- Sizes that fit one after the other are sums that fit; more never fits where less does not (AccountFits). No condition. -/
import Derived.Test.YtbbeoeoengogpaaA6
import Derived.Test.YtbbeoeoengogpaaAM
namespace Go.Proofs.Ytbbeoeoengogpaa
open Go.ChangeShapes Go.WideShapes Go.ChangeAt Go.RowKit
set_option linter.unusedVariables false

set_option maxRecDepth 100000 in
theorem fits_walk (u l a b : Int) (hu : 0 ≤ u ∧ u ≤ 4294967295) (hl : 0 ≤ l ∧ l ≤ 4294967295) (ha : 0 ≤ a ∧ a ≤ 65535) (hb : 0 ≤ b ∧ b ≤ 65535) (w : World) :
    Calls Try.prog 8 #[.int .u32 u, .int .u32 l, .agg #[.int .u16 a, .int .u16 b]] w fun e w' => e = .returned (.bool true) ∧ Below w.heap.size w w' := by
  go_enter Try.func8, Try.ntmps8
  go_wp2_with (go_at_call 11; refine (sanity_any _).mono ?_; rintro e w1 ⟨rfl, hb1⟩)
  have hc0 : w1.cell? ⟨w.heap.size, 0, none⟩ = some (.int .u16 a) := (hb1.cell (p := ⟨w.heap.size, 0, none⟩) (by simp)).trans (by go_simp)
  have hc1 : w1.cell? ⟨w.heap.size, 1, none⟩ = some (.int .u16 b) := (hb1.cell (p := ⟨w.heap.size, 1, none⟩) (by simp)).trans (by go_simp)
  have HB := Lib.hid (below_then (below_alloc _) hb1)
  clear hb1
  go_region
  have C1 := Lib.hid (fun w => fits_any u l a w (by unfold I64; omega) (by unfold I64; omega) (by unfold I64; omega))
  have C2 := Lib.hid (fun w => fits_any (u + a) l b w (by unfold I64; omega) (by unfold I64; omega) (by unfold I64; omega))
  have C3 := Lib.hid (fun w => fits_any u l (a + b) w (by unfold I64; omega) (by unfold I64; omega) (by unfold I64; omega))
  have C4 := Lib.hid (fun w => fits_any u l b w (by unfold I64; omega) (by unfold I64; omega) (by unfold I64; omega))
  have C5 := Lib.hid (fun w => fits_any u l (-1 - a) w (by unfold I64; omega) (by unfold I64; omega) (by unfold I64; omega))
  have C6 := Lib.hid (fun w => fits_any u (u + a) a w (by unfold I64; omega) (by unfold I64; omega) (by unfold I64; omega))
  have C7 := Lib.hid (fun w => fits_any u (u + a) (a + 1) w (by unfold I64; omega) (by unfold I64; omega) (by unfold I64; omega))
  have f5 : fitsB u l (-1 - a) = false := by simp [fitsB]; omega
  have f6 : fitsB u (u + a) a = true := by simp [fitsB]; omega
  have f7 : fitsB u (u + a) (a + 1) = false := by simp [fitsB]; omega
  rw [f5] at C5
  rw [f6] at C6
  rw [f7] at C7
  clear f5 f6 f7 hc0 hc1
  by_cases p1 : u + a ≤ l
  · have f1 : fitsB u l a = true := by simp [fitsB]; omega
    rw [f1] at C1
    clear f1
    by_cases p2 : u + a + b ≤ l
    · have f2 : fitsB (u + a) l b = true := by simp [fitsB]; omega
      have f3 : fitsB u l (a + b) = true := by simp [fitsB]; omega
      have f4 : fitsB u l b = true := by simp [fitsB]; omega
      rw [f2] at C2
      rw [f3] at C3
      rw [f4] at C4
      clear f2 f3 f4
      go_wp2_with fail
      refine (C1.out _).mono ?_
      rintro e w2 ⟨rfl, rfl⟩
      go_wp2_with fail
      refine (C2.out _).mono ?_
      rintro e w2 ⟨rfl, rfl⟩
      go_wp2_with fail
      refine (C3.out _).mono ?_
      rintro e w2 ⟨rfl, rfl⟩
      go_wp2_with fail
      refine (C4.out _).mono ?_
      rintro e w2 ⟨rfl, rfl⟩
      go_wp2_with fail
      refine (C5.out _).mono ?_
      rintro e w2 ⟨rfl, rfl⟩
      go_wp2_with fail
      refine (C6.out _).mono ?_
      rintro e w2 ⟨rfl, rfl⟩
      go_wp2_with fail
      refine (C7.out _).mono ?_
      rintro e w2 ⟨rfl, rfl⟩
      go_wp2_with fail
      go_ret
      exact ⟨rfl, below_drewN HB.out _⟩
    · have f2 : fitsB (u + a) l b = false := by simp [fitsB]; omega
      have f3 : fitsB u l (a + b) = false := by simp [fitsB]; omega
      rw [f2] at C2
      rw [f3] at C3
      clear f2 f3
      go_wp2_with fail
      refine (C1.out _).mono ?_
      rintro e w2 ⟨rfl, rfl⟩
      go_wp2_with fail
      refine (C2.out _).mono ?_
      rintro e w2 ⟨rfl, rfl⟩
      go_wp2_with fail
      refine (C3.out _).mono ?_
      rintro e w2 ⟨rfl, rfl⟩
      go_wp2_with fail
      refine (C5.out _).mono ?_
      rintro e w2 ⟨rfl, rfl⟩
      go_wp2_with fail
      refine (C6.out _).mono ?_
      rintro e w2 ⟨rfl, rfl⟩
      go_wp2_with fail
      refine (C7.out _).mono ?_
      rintro e w2 ⟨rfl, rfl⟩
      go_wp2_with fail
      go_ret
      exact ⟨rfl, below_drewN HB.out _⟩
  · have f1 : fitsB u l a = false := by simp [fitsB]; omega
    have f3 : fitsB u l (a + b) = false := by simp [fitsB]; omega
    rw [f1] at C1
    rw [f3] at C3
    clear f1 f3
    have C2' : ∀ w, Calls Try.prog 20 #[.int .i64 (u + a), .int .i64 l, .int .i64 b] w fun r w' => ∃ v, r = .returned (.bool v) ∧ w = w' := fun w => (C2.out w).mono fun _ _ ⟨h1, h2⟩ => ⟨_, h1, h2⟩
    have C2h := Lib.hid C2'
    clear C2 C2'
    go_wp2_with fail
    refine (C1.out _).mono ?_
    rintro e w2 ⟨rfl, rfl⟩
    go_wp2_with fail
    refine (C2h.out _).mono ?_
    rintro e w2 ⟨v2, rfl, rfl⟩
    go_wp2_with fail
    refine (C3.out _).mono ?_
    rintro e w2 ⟨rfl, rfl⟩
    go_wp2_with fail
    refine (C5.out _).mono ?_
    rintro e w2 ⟨rfl, rfl⟩
    go_wp2_with fail
    refine (C6.out _).mono ?_
    rintro e w2 ⟨rfl, rfl⟩
    go_wp2_with fail
    refine (C7.out _).mono ?_
    rintro e w2 ⟨rfl, rfl⟩
    go_wp2_with fail
    go_ret
    exact ⟨rfl, below_drewN HB.out _⟩

set_option maxRecDepth 100000 in
theorem fits_lifted (os : Os) (started : os.Started) (H : Type) (enc : TypeId × Value → H) :
    ReturnsInHanded {} Try.checked os 8 .any (Rows.accountFitsSpec.pre6 enc Try.prog Try.f8 Rows.accountFitsRow.domain false) (Rows.accountFitsSpec.post enc Try.prog Try.f8 false true false false) := by
  refine law_lift (C := Try.checked) Try.own started (by kernel_rfl) Try.func8
    (ChangeSpec.witness6 (enc := enc) (C := Try.checked) false ⟨#[], #[.int .u32 0, .int .u32 0, .agg #[.int .u16 0, .int .u16 0]], []⟩ 8 (by kernel_rfl) (by kernel_rfl) (by kernel_rfl) (by kernel_rfl))
    Try.laidOut (by kernel_rfl) rfl rfl Try.underlying4 ?_ ?_
  · intro ds hl
    match ds, hl with
    | [d1, d2, d3], _ => exact ⟨rfl, rfl, rfl⟩
  · intro W base args ds p hval0 hA0 hlt hsz
    have hval : ∀ (j : Nat) t v, Try.f8.params[j]? = some t → args[j]? = some v → Value.okWide Try.prog W .any base t v := hval0
    have hA : DataW.TrodAll enc Try.prog W 0 (fun _ => true) true Try.f8.params.toList args.toList ds p := hA0
    rw [Try.params8] at hA hval
    clear hA0 hval0
    obtain ⟨v0, v1, v2, d0, d1, d2, p0, p1, p2, rfl, rfl, rfl, h0, h1, h2⟩ := trodAll_three hA
    obtain ⟨u, rfl, rfl, rfl, wu⟩ := open_int Try.underlying31 (hval 0 31 v0 rfl rfl) h0
    obtain ⟨l, rfl, rfl, rfl, wl⟩ := open_int Try.underlying31 (hval 1 31 v1 rfl rfl) h1
    obtain ⟨a, b, rfl, wa, wb⟩ := open_int_array2 Try.underlying44 Try.underlying40 (by kernel_rfl) (by kernel_rfl) (hval 2 44 v2 rfl rfl) h2
    exact fits_walk u l a b (bd_u32 wu) (bd_u32 wl) (bd_u16 wa) (bd_u16 wb) W

/-- The statement. -/
theorem fits_holds : Rows.AccountFitsSaid :=
  OpenClaim.holds_of_wide 8 Try.f8 rfl rfl rfl rfl rfl rfl rfl ⟨rfl, rfl, rfl, rfl, rfl⟩ rfl rfl rfl rfl rfl (by kernel_rfl) Try.func8 (by kernel_rfl)
    (of_decide_eq_true (by kernel_rfl)) (by unfold Func.isWrapper; first | (rw [if_pos (by decide +kernel)]; kernel_rfl) | (rw [if_neg (by decide +kernel)]; exact ⟨rfl, rfl⟩))
    (fun os started H enc _ => fits_lifted os started H enc)
#print axioms fits_holds
end Go.Proofs.Ytbbeoeoengogpaa
