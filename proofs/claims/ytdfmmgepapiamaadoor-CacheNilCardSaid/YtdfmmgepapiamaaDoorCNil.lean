/- CacheNil: nil and zero sites are as stated; sites do not share anything: for every shape and slot the law returns true. -/
import Derived.Test.YtdfmmgepapiamaaDoorS5
import Derived.Test.YtdfmmgepapiamaaDoorKLT
namespace Go.Proofs.YtdfmmgepapiamaaDoor
open Go.ChangeShapes Go.WideShapes Go.ChangeAt Go.RowKit
set_option linter.unusedVariables false

/-! ### The nil site -/
theorem nil_find (x : Int) (w : World) : Calls Tryd.prog 13 #[.pointer none, .int .i64 x] w fun e w' => e = .returned (.tuple #[.int .i64 0, .bool false]) ∧ w = w' := by
  go_enter Tryd.func13, Tryd.ntmps13
  go_wp2_with fail
  go_ret2
  exact ⟨rfl, rfl⟩
theorem nil_counts (w : World) : Calls Tryd.prog 18 #[.pointer none] w fun e w' => e = .returned (.tuple #[.int .i64 0, .int .i64 0]) ∧ w = w' := by
  go_enter Tryd.func18, Tryd.ntmps18
  go_wp2_with fail
  go_ret2
  exact ⟨rfl, rfl⟩
theorem nil_learn (x y : Int) (w : World) : Calls Tryd.prog 12 #[.pointer none, .int .i64 x, .int .i64 y] w fun e w' => e = .returned (.int .i64 1) ∧ w = w' := by
  go_enter Tryd.func12, Tryd.ntmps12
  go_wp2_with fail
  go_ret
  exact ⟨rfl, rfl⟩
theorem nil_forget (x : Int) (w : World) : Calls Tryd.prog 15 #[.pointer none, .int .i64 x] w fun e w' => e = .returned (.bool false) ∧ w = w' := by
  go_enter Tryd.func15, Tryd.ntmps15
  go_wp2_with fail
  go_ret
  exact ⟨rfl, rfl⟩
theorem nil_state (w : World) : Calls Tryd.prog 16 #[.pointer none] w fun e w' => e = .returned (.int .i64 0) ∧ w = w' := by
  go_enter Tryd.func16, Tryd.ntmps16
  go_wp2_with fail
  go_ret
  exact ⟨rfl, rfl⟩
theorem nil_shapes (w : World) : Calls Tryd.prog 17 #[.pointer none] w fun e w' => e = .returned (.slice none 0 0) ∧ w = w' := by
  go_enter Tryd.func17, Tryd.ntmps17
  go_wp2_with fail
  go_ret
  exact ⟨rfl, rfl⟩
theorem nil_text (w : World) : Calls Tryd.prog 14 #[.pointer none] w fun e w' => e = .returned (.string ⟨#[]⟩) ∧ w = w' := by
  go_enter Tryd.func14, Tryd.ntmps14
  go_wp2_with fail
  go_ret
  exact ⟨rfl, rfl⟩
theorem new_text : sb CS.new.text = ⟨#[]⟩ := rfl
theorem learn_new (x y : Int) : (CS.new.learn x y = (1, CS.new)) ∨ (CS.new.learn x y = (0, ⟨[(x, y)], false, 0, 0⟩)) := by
  unfold CS.learn
  by_cases h : x < 0 ∨ y < 0
  · rw [if_pos h]; exact .inl rfl
  · rw [if_neg h]; exact .inr rfl
set_option maxHeartbeats 4000000 in
set_option maxRecDepth 100000 in
theorem nil_walk (x y : Int) (hx : -9223372036854775808 ≤ x ∧ x ≤ 9223372036854775807) (hy : -9223372036854775808 ≤ y ∧ y ≤ 9223372036854775807) (w : World) (hT : TB w) :
    Calls Tryd.prog 8 #[.int .i64 x, .int .i64 y] w fun e w' => e = .returned (.bool true) ∧ Below w.heap.size w w' := by
  have T := Lib.hid hT
  have h0 := hT.pos
  have LN := Lib.hid (learn_new x y)
  clear hT
  go_enter Tryd.func8, Tryd.ntmps8
  go_wp2_with fail
  ((with_reducible refine (sanity_any w T.out).mono ?_); rintro e w1 ⟨rfl, hk1⟩)
  have S1 := Lib.hid hk1; clear hk1
  go_wp2_with fail
  ((with_reducible refine (nil_find _ _).mono ?_); rintro e w2 ⟨rfl, rfl⟩)
  go_wp2_with fail
  ((with_reducible refine (nil_counts _).mono ?_); rintro e w2 ⟨rfl, rfl⟩)
  go_wp2_with fail
  ((with_reducible refine (nil_learn _ _ _).mono ?_); rintro e w2 ⟨rfl, rfl⟩)
  go_wp2_with fail
  ((with_reducible refine (nil_forget _ _).mono ?_); rintro e w2 ⟨rfl, rfl⟩)
  go_wp2_with fail
  ((with_reducible refine (nil_state _).mono ?_); rintro e w2 ⟨rfl, rfl⟩)
  go_wp2_with fail
  ((with_reducible refine (nil_shapes _).mono ?_); rintro e w2 ⟨rfl, rfl⟩)
  go_wp2_with fail
  ((with_reducible refine (nil_text _).mono ?_); rintro e w2 ⟨rfl, rfl⟩)
  go_wp2_with fail
  have hz : IsSite (w1.alloc (.cells #[.int .i64 0, .int .i64 0, .int .i64 0, .int .i64 0, .int .i64 0, .int .i64 0, .int .i64 0, .int .i64 0, .int .i64 0, .bool false, .int .i64 0, .int .i64 0] 53)) w1.heap.size CS.new := ⟨List.replicate 8 (.int .i64 0), rfl, fun i hi => absurd hi (by simp [CS.new]), heap_alloc_new _ _, ok_new⟩
  have hks : Since w1.heap.size w1 (w1.alloc (.cells #[.int .i64 0, .int .i64 0, .int .i64 0, .int .i64 0, .int .i64 0, .int .i64 0, .int .i64 0, .int .i64 0, .int .i64 0, .bool false, .int .i64 0, .int .i64 0] 53)) := Since.of ((Keep.refl _ w1).alloc' _)
  obtain ⟨w2, hw2⟩ : ∃ w2, w1.alloc (.cells #[.int .i64 0, .int .i64 0, .int .i64 0, .int .i64 0, .int .i64 0, .int .i64 0, .int .i64 0, .int .i64 0, .int .i64 0, .bool false, .int .i64 0, .int .i64 0] 53) = w2 := ⟨_, rfl⟩
  rw [hw2] at hz hks ⊢
  have Z := S1.out.size
  have P2 := Lib.hid hz; have S2 := Lib.hid (Keep.trans S1.out (Since.mono hks Z)); have L2 := hz.lt
  obtain ⟨p, hp⟩ : ∃ p, w1.heap.size = p := ⟨_, rfl⟩
  rw [hp] at P2 Z L2 ⊢
  clear hp S1 hw2 hz hks
  ((with_reducible refine (new_site w2).mono ?_); rintro e w3 ⟨rfl, hs3, hk3⟩)
  have P3 := Lib.hid (P2.out.since hk3 L2); have Q3 := Lib.hid hs3; have S3 := Lib.hid (Keep.trans S2.out (Since.mono hk3 S2.out.size)); have L3 := hs3.lt
  obtain ⟨q, hq⟩ : ∃ q, w2.heap.size = q := ⟨_, rfl⟩
  rw [hq] at Q3 L2 L3 ⊢
  clear hq hs3 hk3 S2 P2
  go_wp2_with fail
  have h4 := learn_any P3.out x y hx hy
  rcases LN.out with hl | hl
  · rw [hl] at h4
    have H4 := Lib.hid h4
    have HL := Lib.hid hl
    clear h4 hl
    go_wp2_with fail
    ((with_reducible refine H4.out.mono ?_); rintro e w4 ⟨rfl, hs4, hk4⟩)
    have P4 := Lib.hid hs4; have Q4 := Lib.hid (Q3.out.other hk4 (by omega)); have S4 := Lib.hid (Keep.trans S3.out (since_at hk4 Z)); clear hs4 hk4 H4 P3 S3 Q3
    go_wp2_with fail
    ((with_reducible refine (shapes_any P4.out).mono ?_); rintro e w5 ⟨u5, rfl, ho5, hk5⟩)
    have S5 := Lib.hid (Keep.trans S4.out (Since.mono hk5 S4.out.size)); have P5 := Lib.hid (P4.out.since hk5 P4.out.lt); have Q5 := Lib.hid (Q4.out.since hk5 Q4.out.lt)
    obtain ⟨A5, c5, rfl⟩ := own_slice ho5
    clear ho5 hk5 P4 Q4 S4
    have e0 : CS.new.l.length = 0 := rfl
    rw [e0]
    clear e0
    go_wp2_with fail
    refine wp_loop_rounds 1 ?_
    rw [rounds_succ]
    go_wp2_with fail
    have h6 := new_site w5
    ((with_reducible refine h6.mono ?_); rintro e w6 ⟨rfl, hs6, hk6⟩)
    have S6 := Lib.hid (Keep.trans S5.out (Since.mono hk6 S5.out.size)); have Q6 := Lib.hid (Q5.out.since hk6 Q5.out.lt); have L6 := Q5.out.lt
    have h7 := learn_any hs6 x y hx hy
    rw [HL.out] at h7
    obtain ⟨z, hz⟩ : ∃ z, w5.heap.size = z := ⟨_, rfl⟩
    rw [hz] at h7 L6 ⊢
    have Zz : w.heap.size ≤ z := by rw [← hz]; exact S5.out.size
    have H7 := Lib.hid h7
    clear hs6 hk6 h6 h7 hz S5 P5 Q5
    go_wp2_with fail
    ((with_reducible refine H7.out.mono ?_); rintro e w7 ⟨rfl, hs7, hk7⟩)
    have Q7 := Lib.hid (Q6.out.other hk7 (by omega)); have S7 := Lib.hid (Keep.trans S6.out (since_at hk7 Zz)); clear hs7 hk7 H7 Q6 S6
    go_wp2_with fail
    have h8 := state_any Q7.out
    rw [show CS.new.state = 0 from rfl] at h8
    ((with_reducible refine h8.mono ?_); rintro e w8 ⟨rfl, rfl⟩)
    clear h8
    go_wp2_with fail
    have h9 := text_any Q7.out (T.out.since S7.out h0)
    rw [new_text] at h9
    ((with_reducible refine h9.mono ?_); rintro e w9 ⟨rfl, hk9⟩)
    have S9 := Lib.hid (Keep.trans S7.out (Since.mono hk9 S7.out.size)); clear hk9 h9 Q7 S7
    go_wp2_with fail
    go_ret
    exact ⟨rfl, below_since S9.out rfl⟩
  · rw [hl] at h4
    have H4 := Lib.hid h4
    have HL := Lib.hid hl
    clear h4 hl
    go_wp2_with fail
    ((with_reducible refine H4.out.mono ?_); rintro e w4 ⟨rfl, hs4, hk4⟩)
    have P4 := Lib.hid hs4; have Q4 := Lib.hid (Q3.out.other hk4 (by omega)); have S4 := Lib.hid (Keep.trans S3.out (since_at hk4 Z)); clear hs4 hk4 H4 P3 S3 Q3
    go_wp2_with fail
    ((with_reducible refine (shapes_any P4.out).mono ?_); rintro e w5 ⟨u5, rfl, ho5, hk5⟩)
    have S5 := Lib.hid (Keep.trans S4.out (Since.mono hk5 S4.out.size)); have P5 := Lib.hid (P4.out.since hk5 P4.out.lt); have Q5 := Lib.hid (Q4.out.since hk5 Q4.out.lt)
    have hps := P4.out.lt
    have hqs := Q4.out.lt
    have e0 : (⟨[(x, y)], false, 0, 0⟩ : CS).l.length = 1 := rfl
    rw [e0] at ho5
    obtain ⟨g, c5, rfl, _, _⟩ := ho5.form (by decide)
    have hc5 : w5.cell? ⟨g, 0, none⟩ = some (.int .i64 x) := ho5.cellAt 0 (by decide)
    have hf5 : w5.frozen? ⟨g, 0, none⟩ = false := ho5.frozenAt 0
    have hgl := own_low ho5 (k := g) rfl
    have hgs := hk5.size
    clear e0 ho5 hk5
    go_wp2_with fail
    refine wp_loop_rounds 2 ?_
    rw [rounds_succ]
    go_wp2_with fail
    rw [rounds_succ]
    go_wp2_with fail
    have hkg : Keep (fun k => k = g) w5 (w5.setCell ⟨g, 0, none⟩ (.int .i64 (-9))) := keep_set (Keep.refl _ w5) _ _
    have P6 := Lib.hid (P5.out.other hkg (by omega)); have Q6 := Lib.hid (Q5.out.other hkg (by omega)); have S6 := Lib.hid (Keep.trans S5.out (since_at hkg (Nat.le_trans S4.out.size hgl)))
    obtain ⟨w6, hw6⟩ : ∃ w6, w5.setCell ⟨g, 0, none⟩ (.int .i64 (-9)) = w6 := ⟨_, rfl⟩
    rw [hw6] at P6 Q6 S6 ⊢
    clear hw6 hkg P5 Q5 S5 P4 Q4 S4 hc5 hf5
    have h6 := new_site w6
    ((with_reducible refine h6.mono ?_); rintro e w7 ⟨rfl, hs7, hk7⟩)
    have S7 := Lib.hid (Keep.trans S6.out (Since.mono hk7 S6.out.size)); have Q7 := Lib.hid (Q6.out.since hk7 Q6.out.lt); have P7 := Lib.hid (P6.out.since hk7 P6.out.lt); have L6 := Q6.out.lt; have M6 := P6.out.lt
    have h8 := learn_any hs7 x y hx hy
    rw [HL.out] at h8
    obtain ⟨z, hz⟩ : ∃ z, w6.heap.size = z := ⟨_, rfl⟩
    rw [hz] at h8 L6 M6 ⊢
    have Zz : w.heap.size ≤ z := by rw [← hz]; exact S6.out.size
    have H8 := Lib.hid h8
    clear hs7 hk7 h6 h8 hz S6 P6 Q6
    go_wp2_with fail
    ((with_reducible refine H8.out.mono ?_); rintro e w8 ⟨rfl, hs8, hk8⟩)
    have Q8 := Lib.hid (Q7.out.other hk8 (by omega)); have P8 := Lib.hid (P7.out.other hk8 (by omega)); have S8 := Lib.hid (Keep.trans S7.out (since_at hk8 Zz)); clear hs8 hk8 H8 Q7 P7 S7
    go_wp2_with fail
    have h9 := state_any Q8.out
    rw [show CS.new.state = 0 from rfl] at h9
    ((with_reducible refine h9.mono ?_); rintro e w9 ⟨rfl, rfl⟩)
    clear h9
    go_wp2_with fail
    have h10 := text_any Q8.out (T.out.since S8.out h0)
    rw [new_text] at h10
    ((with_reducible refine h10.mono ?_); rintro e w10 ⟨rfl, hk10⟩)
    have P10 := Lib.hid (P8.out.since hk10 P8.out.lt); have S10 := Lib.hid (Keep.trans S8.out (Since.mono hk10 S8.out.size)); clear hk10 h10 Q8 P8 S8
    go_wp2_with fail
    have h11 := state_any P10.out
    rw [show (⟨[(x, y)], false, 0, 0⟩ : CS).state = 1 from rfl] at h11
    ((with_reducible refine h11.mono ?_); rintro e w11 ⟨rfl, rfl⟩)
    clear h11
    go_wp2_with fail
    ((with_reducible refine (shapes_any P10.out).mono ?_); rintro e w12 ⟨u12, rfl, ho12, hk12⟩)
    have S12 := Lib.hid (Keep.trans S10.out (Since.mono hk12 S10.out.size))
    rw [show (⟨[(x, y)], false, 0, 0⟩ : CS).l.length = 1 from rfl, show (⟨[(x, y)], false, 0, 0⟩ : CS).shapes = [x] from rfl] at ho12
    obtain ⟨A12, c12, rfl, hc12⟩ := owns_cells ho12
    have C12 := Lib.hid hc12
    clear ho12 hk12 hc12 P10 S10
    have heq := fun A (h : IntsAt (w12.alloc (.cells #[.int .i64 x] 3)) A 1 [x]) => equal_any A12 A 1 1 c12 1 [x] [x] _ (C12.out.alloc _) h
    rw [show decide ([x] = [x]) = true by simp] at heq
    have HEQ := Lib.hid (heq _ (cells_new w12 (ints [x]) 3 (by simp [ints])))
    have S13 := Lib.hid (show Since w.heap.size w (w12.alloc (.cells #[.int .i64 x] 3)) from Keep.trans S12.out (Since.of ((Keep.refl _ w12).alloc' _)))
    clear heq S12 C12
    go_wp2_with fail
    ((with_reducible refine HEQ.out.mono ?_); rintro e w13 ⟨rfl, k13, rfl⟩)
    have S14 := Lib.hid (Keep.trans S13.out (since_draw w.heap.size k13 _))
    go_wp2_with fail
    go_ret
    exact ⟨rfl, below_since S14.out rfl⟩
set_option maxRecDepth 100000 in
theorem nil_lifted (os : Os) (started : os.Started) (H : Type) (enc : TypeId × Value → H) :
    ReturnsInHanded {} Tryd.checked os 8 .any (fun w args => (Rows.cacheNilSpec.pre enc Tryd.prog Tryd.f8 Rows.cacheNilRow.domain false w args ∧ laidMet Tryd.prog Rows.cacheNilRow.laid w) ∧ sizedMet enc Tryd.prog Tryd.f8 (OpenSpec.ofChange Rows.cacheNilSpec) false w args) (Rows.cacheNilSpec.post enc Tryd.prog Tryd.f8 false true false false) := by
  refine law_lift_laid (C := Tryd.checked) (X := fun w _ => laidMet Tryd.prog tabs w) (fun _ _ _ hh h => h.of_heap hh) Tryd.own started (by kernel_rfl) Tryd.func8
    (ChangeSpec.witness_at (enc := enc) (C := Tryd.checked) (os := os) (X := fun w _ => laidMet Tryd.prog tabs w) false (laidWorld os) #[.int .i64 0, .int .i64 0] 8 rfl (by kernel_rfl) (by kernel_rfl) (by kernel_rfl) (by kernel_rfl) (by kernel_rfl) (laidWorld_met os _))
    Tryd.laidOut (by kernel_rfl) rfl rfl Tryd.underlying4 ?_ ?_
  · intro ds hl
    match ds, hl with
    | [d1, d2], _ => exact ⟨rfl, rfl, rfl⟩
  · intro W base args ds p hval0 hA0 hlt hsz0 hL
    have hval : ∀ (j : Nat) t v, Tryd.f8.params[j]? = some t → args[j]? = some v → Value.okWide Tryd.prog W .any base t v := hval0
    have hA : DataW.TrodAll enc Tryd.prog W 0 (fun _ => true) true Tryd.f8.params.toList args.toList ds p := hA0
    have hsz : (DataW.weightsEach Tryd.prog Tryd.f8.params.toList ds).all (· ≤ reachBytes) = true := hsz0
    rw [Tryd.params8] at hA hval hsz
    clear hA0 hval0 hsz0
    obtain ⟨v0, v1, d0, d1, p0, p1, rfl, rfl, rfl, h0, h1⟩ := trodAll_two hA
    obtain ⟨x, rfl, rfl, rfl, wx⟩ := open_int Tryd.underlying3 (hval 0 3 v0 rfl rfl) h0
    obtain ⟨y, rfl, rfl, rfl, wy⟩ := open_int Tryd.underlying3 (hval 1 3 v1 rfl rfl) h1
    exact nil_walk x y (bd_i64 wx) (bd_i64 wy) W (tb_of_laid hL)

/-- The row. -/
theorem nil_row : Rows.CacheNilSaid :=
  OpenClaim.holds_of_wide 8 Tryd.f8 rfl rfl rfl rfl rfl rfl rfl ⟨rfl, rfl, rfl, rfl, rfl⟩ rfl rfl rfl rfl rfl (by kernel_rfl) Tryd.func8 (by kernel_rfl)
    (of_decide_eq_true (by kernel_rfl)) (by unfold Func.isWrapper; first | (rw [if_pos (by decide +kernel)]; kernel_rfl) | (rw [if_neg (by decide +kernel)]; exact ⟨rfl, rfl⟩))
    (fun os started H enc _ => nil_lifted os started H enc)
/-- The statement: the tied card. -/
theorem nil_holds : Rows.CacheNilCardSaid :=
  Claim7.holds_tied_plain_at .later [] [.data, .data, .data] true (true, "dac5fa98be8ba01293bcc018d0cdd3b90fbf6db38275f6b49ccd14927eae94f6") false
    nil_row (fun _ h => by cases h) (by kernel_rfl) (fun _ h => by cases h) cacheNil_row_tie rfl ⟨rfl, rfl⟩ (by kernel_rfl) rfl
    (fun f fn hf hfn => by
      obtain rfl : f = 8 := Option.some.inj ((show Tryd.prog.funcNamed "facsimile/facsimilelaw12.CacheNil" = some 8 by kernel_rfl).symm.trans hf) |>.symm
      obtain rfl : fn = Tryd.f8 := (Option.some.inj (Tryd.func8.symm.trans hfn)).symm
      exact ⟨by kernel_rfl, fun j t ht => by
        have h := List.all_eq_true.1 (show (Tryd.f8.params.toList.all fun t => !Tryd.prog.wantsStandIn t) = true by kernel_rfl) t (List.mem_of_getElem? (by simpa using ht))
        exact (show Tryd.prog.wantsStandIn t = false by simpa using h)⟩)
    (by kernel_rfl)
#print axioms nil_holds
end Go.Proofs.YtdfmmgepapiamaaDoor
