/- CacheArgs: negative shapes and slots are refused, and change nothing; greatest ints are permitted: for every shape and slot the law returns true. -/
import Derived.Test.YtdfmmgepapiamaaDoorS5
import Derived.Test.YtdfmmgepapiamaaDoorKLT
namespace Go.Proofs.YtdfmmgepapiamaaDoor
open Go.ChangeShapes Go.WideShapes Go.ChangeAt Go.RowKit
set_option linter.unusedVariables false

theorem one_text (h m : Int) : (⟨[(1, 1)], false, h, m⟩ : CS).text = [49, 58, 49] := by
  have e1 : Lib.itoa 1 = [49] := by
    have : Lib.itoa ((1 : Nat) : Int) = [UInt8.ofNat (48 + 1)] := by rw [Lib.itoa_nonneg, Lib.decDigits_one (by decide)]
    exact this
  show joinB [Lib.itoa 1 ++ [58] ++ Lib.itoa 1] [32] = _
  rw [e1]
  rfl
theorem args_neg (x y : Int) (h : x < 0 ∨ y < 0) : (⟨[(1, 1)], false, 0, 0⟩ : CS).learn x y = (1, ⟨[(1, 1)], false, 0, 0⟩) := by
  unfold CS.learn; rw [if_pos h]
theorem args_find_one : (⟨[(1, 1)], false, 0, 0⟩ : CS).find 1 = ((1, true), ⟨[(1, 1)], false, 1, 0⟩) := rfl
theorem args_find_other (x : Int) (h : x ≠ 1) : (⟨[(1, 1)], false, 0, 0⟩ : CS).find x = ((0, false), ⟨[(1, 1)], false, 0, 1⟩) := by
  have : idxL [(1, 1)] x = none := by simp [idxL, Ne.symm h]
  unfold CS.find
  simp only [this]
  rfl
theorem args_pos_one (y : Int) (h : 0 ≤ y) : (⟨[(1, 1)], false, 0, 0⟩ : CS).learn 1 y = (0, ⟨[(1, y)], false, 0, 0⟩) ∧ (⟨[(1, y)], false, 0, 0⟩ : CS).find 1 = ((y, true), ⟨[(1, y)], false, 1, 0⟩) := by
  refine ⟨?_, rfl⟩
  unfold CS.learn
  rw [if_neg (by omega), if_neg (by simp)]
  rfl
theorem args_pos_other (x y : Int) (hx : 0 ≤ x) (hy : 0 ≤ y) (h : x ≠ 1) : (⟨[(1, 1)], false, 0, 0⟩ : CS).learn x y = (0, ⟨[(1, 1), (x, y)], false, 0, 0⟩) ∧ (⟨[(1, 1), (x, y)], false, 0, 0⟩ : CS).find x = ((y, true), ⟨[(1, 1), (x, y)], false, 1, 0⟩) := by
  have e1 : idxL [(1, 1)] x = none := by simp [idxL, Ne.symm h]
  have e2 : idxL [(1, 1), (x, y)] x = some 1 := by simp [idxL, Ne.symm h, List.findIdx?_cons]
  constructor
  · unfold CS.learn
    rw [if_neg (by omega), if_neg (by simp)]
    simp only [e1]
    rfl
  · unfold CS.find
    simp only [e2]
    rfl
set_option maxHeartbeats 4000000 in
set_option maxRecDepth 100000 in
theorem args_walk (x y : Int) (hx : -9223372036854775808 ≤ x ∧ x ≤ 9223372036854775807) (hy : -9223372036854775808 ≤ y ∧ y ≤ 9223372036854775807) (w : World) (hT : TB w) :
    Calls Tryd.prog 3 #[.int .i64 x, .int .i64 y] w fun e w' => e = .returned (.bool true) ∧ Below w.heap.size w w' := by
  have T := Lib.hid hT
  have h0 := hT.pos
  have hcase : (x < 0 ∨ y < 0) ∧ x = 1 ∨ (x < 0 ∨ y < 0) ∧ x ≠ 1 ∨ (0 ≤ x ∧ 0 ≤ y) ∧ x = 1 ∨ (0 ≤ x ∧ 0 ≤ y) ∧ x ≠ 1 := by omega
  clear hT
  go_enter Tryd.func3, Tryd.ntmps3
  go_wp2_with fail
  ((with_reducible refine (sanity_any w T.out).mono ?_); rintro e w1 ⟨rfl, hk1⟩)
  have S1 := Lib.hid hk1; clear hk1
  go_wp2_with fail
  ((with_reducible refine (new_site w1).mono ?_); rintro e w2 ⟨rfl, hs2, hk2⟩)
  have P2 := Lib.hid hs2; have S2 := Lib.hid (Keep.trans S1.out (Since.mono hk2 S1.out.size)); have Z := S1.out.size; clear hs2 hk2
  obtain ⟨p, hp⟩ : ∃ p, w1.heap.size = p := ⟨_, rfl⟩
  rw [hp] at P2 Z ⊢
  clear hp S1
  go_wp2_with fail
  have h3 := learn_any P2.out 1 1 (by decide) (by decide)
  rw [show CS.new.learn 1 1 = (0, ⟨[(1, 1)], false, 0, 0⟩) from rfl] at h3
  ((with_reducible refine h3.mono ?_); rintro e w3 ⟨rfl, hs3, hk3⟩)
  have P3 := Lib.hid hs3; have S3 := Lib.hid (Keep.trans S2.out (since_at hk3 Z)); clear hs3 hk3 h3 P2 S2
  have h4 := learn_any P3.out x y hx hy
  rcases hcase with ⟨hn, rfl⟩ | ⟨hn, h1⟩ | ⟨⟨g1, g2⟩, rfl⟩ | ⟨⟨g1, g2⟩, h1⟩
  · rw [args_neg _ _ hn] at h4
    have H4 := Lib.hid h4
    have hy0 : y < 0 := by omega
    clear h4 hn
    go_wp2_with fail
    ((with_reducible refine H4.out.mono ?_); rintro e w4 ⟨rfl, hs4, hk4⟩)
    have P4 := Lib.hid hs4; have S4 := Lib.hid (Keep.trans S3.out (since_at hk4 Z)); clear hs4 hk4 H4 P3 S3
    go_wp2_with fail
    have h5 := find_any P4.out 1 (few_lit (by decide) (by decide))
    rw [args_find_one] at h5
    ((with_reducible refine h5.mono ?_); rintro e w5 ⟨rfl, hs5, hk5⟩)
    have P5 := Lib.hid hs5; have S5 := Lib.hid (Keep.trans S4.out (since_at hk5 Z)); clear hs5 hk5 h5 P4 S4
    go_wp2_with fail
    have h6 := text_any P5.out (T.out.since S5.out h0)
    rw [one_text, show sb [49, 58, 49] = ⟨#[49, 58, 49]⟩ from rfl] at h6
    ((with_reducible refine h6.mono ?_); rintro e w6 ⟨rfl, hk6⟩)
    have S6 := Lib.hid (Keep.trans S5.out (Since.mono hk6 S5.out.size)); clear hk6 h6 P5 S5
    go_wp2_with fail
    go_ret
    exact ⟨rfl, below_since S6.out rfl⟩
  · rw [args_neg _ _ hn] at h4
    have H4 := Lib.hid h4
    have HN := Lib.hid hn
    have hb1 : (x == 1) = false := by simpa using h1
    have HF := Lib.hid (args_find_other x h1)
    clear h4 hn h1
    go_wp2_with fail
    ((with_reducible refine H4.out.mono ?_); rintro e w4 ⟨rfl, hs4, hk4⟩)
    have P4 := Lib.hid hs4; have S4 := Lib.hid (Keep.trans S3.out (since_at hk4 Z)); clear hs4 hk4 H4 P3 S3
    rcases HN.out with hn | hn
    · go_wp2_with fail
      have h5 := find_any P4.out x (few_lit (by decide) (by decide))
      rw [HF.out] at h5
      ((with_reducible refine h5.mono ?_); rintro e w5 ⟨rfl, hs5, hk5⟩)
      have P5 := Lib.hid hs5; have S5 := Lib.hid (Keep.trans S4.out (since_at hk5 Z)); clear hs5 hk5 h5 P4 S4
      go_wp2_with fail
      have h6 := text_any P5.out (T.out.since S5.out h0)
      rw [one_text, show sb [49, 58, 49] = ⟨#[49, 58, 49]⟩ from rfl] at h6
      ((with_reducible refine h6.mono ?_); rintro e w6 ⟨rfl, hk6⟩)
      have S6 := Lib.hid (Keep.trans S5.out (Since.mono hk6 S5.out.size)); clear hk6 h6 P5 S5
      go_wp2_with fail
      go_ret
      exact ⟨rfl, below_since S6.out rfl⟩
    · by_cases hx0 : x < 0
      all_goals (
        go_wp2_with fail
        have h5 := find_any P4.out x (few_lit (by decide) (by decide))
        rw [HF.out] at h5
        ((with_reducible refine h5.mono ?_); rintro e w5 ⟨rfl, hs5, hk5⟩)
        have P5 := Lib.hid hs5; have S5 := Lib.hid (Keep.trans S4.out (since_at hk5 Z)); clear hs5 hk5 h5 P4 S4
        go_wp2_with fail
        have h6 := text_any P5.out (T.out.since S5.out h0)
        rw [one_text, show sb [49, 58, 49] = ⟨#[49, 58, 49]⟩ from rfl] at h6
        ((with_reducible refine h6.mono ?_); rintro e w6 ⟨rfl, hk6⟩)
        have S6 := Lib.hid (Keep.trans S5.out (Since.mono hk6 S5.out.size)); clear hk6 h6 P5 S5
        go_wp2_with fail
        go_ret
        exact ⟨rfl, below_since S6.out rfl⟩)
  · obtain ⟨e1, e2⟩ := args_pos_one y g2
    rw [e1] at h4
    have H4 := Lib.hid h4
    have HF := Lib.hid e2
    have b2 : decide (y < 0) = false := by simp; omega
    clear h4 e1 e2
    go_wp2_with fail
    ((with_reducible refine H4.out.mono ?_); rintro e w4 ⟨rfl, hs4, hk4⟩)
    have P4 := Lib.hid hs4; have S4 := Lib.hid (Keep.trans S3.out (since_at hk4 Z)); clear hs4 hk4 H4 P3 S3
    go_wp2_with fail
    have h5 := find_any P4.out 1 (few_lit (by decide) (by decide))
    rw [HF.out] at h5
    ((with_reducible refine h5.mono ?_); rintro e w5 ⟨rfl, hs5, hk5⟩)
    have S5 := Lib.hid (Keep.trans S4.out (since_at hk5 Z)); clear hs5 hk5 h5 P4 S4
    go_wp2_with fail
    go_ret
    exact ⟨rfl, below_since S5.out rfl⟩
  · obtain ⟨e1, e2⟩ := args_pos_other x y g1 g2 h1
    rw [e1] at h4
    have H4 := Lib.hid h4
    have HF := Lib.hid e2
    have b1 : decide (x < 0) = false := by simp; omega
    have b2 : decide (y < 0) = false := by simp; omega
    clear h4 e1 e2 h1
    go_wp2_with fail
    ((with_reducible refine H4.out.mono ?_); rintro e w4 ⟨rfl, hs4, hk4⟩)
    have P4 := Lib.hid hs4; have S4 := Lib.hid (Keep.trans S3.out (since_at hk4 Z)); clear hs4 hk4 H4 P3 S3
    go_wp2_with fail
    have h5 := find_any P4.out x (few_lit (by decide) (by decide))
    rw [HF.out] at h5
    ((with_reducible refine h5.mono ?_); rintro e w5 ⟨rfl, hs5, hk5⟩)
    have S5 := Lib.hid (Keep.trans S4.out (since_at hk5 Z)); clear hs5 hk5 h5 P4 S4
    go_wp2_with fail
    go_ret
    exact ⟨rfl, below_since S5.out rfl⟩
set_option maxRecDepth 100000 in
theorem args_lifted (os : Os) (started : os.Started) (H : Type) (enc : TypeId × Value → H) :
    ReturnsInHanded {} Tryd.checked os 3 .any (fun w args => (Rows.cacheArgsSpec.pre enc Tryd.prog Tryd.f3 Rows.cacheArgsRow.domain false w args ∧ laidMet Tryd.prog Rows.cacheArgsRow.laid w) ∧ sizedMet enc Tryd.prog Tryd.f3 (OpenSpec.ofChange Rows.cacheArgsSpec) false w args) (Rows.cacheArgsSpec.post enc Tryd.prog Tryd.f3 false true false false) := by
  refine law_lift_laid (C := Tryd.checked) (X := fun w _ => laidMet Tryd.prog tabs w) (fun _ _ _ hh h => h.of_heap hh) Tryd.own started (by kernel_rfl) Tryd.func3
    (ChangeSpec.witness_at (enc := enc) (C := Tryd.checked) (os := os) (X := fun w _ => laidMet Tryd.prog tabs w) false (laidWorld os) #[.int .i64 0, .int .i64 0] 8 rfl (by kernel_rfl) (by kernel_rfl) (by kernel_rfl) (by kernel_rfl) (by kernel_rfl) (laidWorld_met os _))
    Tryd.laidOut (by kernel_rfl) rfl rfl Tryd.underlying4 ?_ ?_
  · intro ds hl
    match ds, hl with
    | [d1, d2], _ => exact ⟨rfl, rfl, rfl⟩
  · intro W base args ds p hval0 hA0 hlt hsz0 hL
    have hval : ∀ (j : Nat) t v, Tryd.f3.params[j]? = some t → args[j]? = some v → Value.okWide Tryd.prog W .any base t v := hval0
    have hA : DataW.TrodAll enc Tryd.prog W 0 (fun _ => true) true Tryd.f3.params.toList args.toList ds p := hA0
    have hsz : (DataW.weightsEach Tryd.prog Tryd.f3.params.toList ds).all (· ≤ reachBytes) = true := hsz0
    rw [Tryd.params3] at hA hval hsz
    clear hA0 hval0 hsz0
    obtain ⟨v0, v1, d0, d1, p0, p1, rfl, rfl, rfl, h0, h1⟩ := trodAll_two hA
    obtain ⟨x, rfl, rfl, rfl, wx⟩ := open_int Tryd.underlying3 (hval 0 3 v0 rfl rfl) h0
    obtain ⟨y, rfl, rfl, rfl, wy⟩ := open_int Tryd.underlying3 (hval 1 3 v1 rfl rfl) h1
    exact args_walk x y (bd_i64 wx) (bd_i64 wy) W (tb_of_laid hL)

/-- The row. -/
theorem args_row : Rows.CacheArgsSaid :=
  OpenClaim.holds_of_wide 3 Tryd.f3 rfl rfl rfl rfl rfl rfl rfl ⟨rfl, rfl, rfl, rfl, rfl⟩ rfl rfl rfl rfl rfl (by kernel_rfl) Tryd.func3 (by kernel_rfl)
    (of_decide_eq_true (by kernel_rfl)) (by unfold Func.isWrapper; first | (rw [if_pos (by decide +kernel)]; kernel_rfl) | (rw [if_neg (by decide +kernel)]; exact ⟨rfl, rfl⟩))
    (fun os started H enc _ => args_lifted os started H enc)
/-- The statement: the tied card. -/
theorem args_holds : Rows.CacheArgsCardSaid :=
  Claim7.holds_tied_plain_at .later [] [.data, .data, .data] true (true, "dac5fa98be8ba01293bcc018d0cdd3b90fbf6db38275f6b49ccd14927eae94f6") false
    args_row (fun _ h => by cases h) (by kernel_rfl) (fun _ h => by cases h) cacheArgs_row_tie rfl ⟨rfl, rfl⟩ (by kernel_rfl) rfl
    (fun f fn hf hfn => by
      obtain rfl : f = 3 := Option.some.inj ((show Tryd.prog.funcNamed "facsimile/facsimilelaw12.CacheArgs" = some 3 by kernel_rfl).symm.trans hf) |>.symm
      obtain rfl : fn = Tryd.f3 := (Option.some.inj (Tryd.func3.symm.trans hfn)).symm
      exact ⟨by kernel_rfl, fun j t ht => by
        have h := List.all_eq_true.1 (show (Tryd.f3.params.toList.all fun t => !Tryd.prog.wantsStandIn t) = true by kernel_rfl) t (List.mem_of_getElem? (by simpa using ht))
        exact (show Tryd.prog.wantsStandIn t = false by simpa using h)⟩)
    (by kernel_rfl)
#print axioms args_holds
end Go.Proofs.YtdfmmgepapiamaaDoor
