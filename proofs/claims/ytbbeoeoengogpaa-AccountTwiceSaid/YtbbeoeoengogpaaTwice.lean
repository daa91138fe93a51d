/- Spending two amounts one after the other is the same as spending both together (AccountTwice). No condition. -/
import Derived.Test.YtbbeoeoengogpaaA6
import Derived.Test.YtbbeoeoengogpaaAM
namespace Go.Proofs.Ytbbeoeoengogpaa
open Go.ChangeShapes Go.WideShapes Go.ChangeAt Go.RowKit
set_option linter.unusedVariables false

theorem spent_length (xs : List Int) (t n : Int) : (spent xs t n).length = xs.length := by simp [spent]
theorem spent_at (xs : List Int) (k : Nat) (n : Int) (h : k < xs.length) : (spent xs k n).getD k 0 = xs.getD k 0 - n := by
  simp [spent, List.getD_eq_getElem?_getD, h]
theorem spent_twice (xs : List Int) (k : Nat) (m n : Int) (h : k < xs.length) : spent (spent xs k m) k n = spent xs k (m + n) := by
  have := spent_at xs k m h
  unfold spent at this ⊢
  simp only [Int.toNat_natCast] at this ⊢
  rw [this, List.set_set]
  congr 1
  omega
theorem spends_is (xs : List Int) (k : Nat) (n : Int) (h : k < xs.length) (hn : 0 ≤ n) : spends xs k n = decide (n ≤ xs.getD k 0) := by
  simp [spends, h, hn]

theorem spent_le (ys : List Int) (k : Nat) (m : Int) (hm : 0 ≤ m) (hk : k < ys.length) (h : ∀ x ∈ ys, x ≤ 9223372036854775807) : ∀ x ∈ spent ys k m, x ≤ 9223372036854775807 := by
  intro x hx
  unfold spent at hx
  rcases List.mem_or_eq_of_mem_set hx with h1 | h1
  · exact h x h1
  · have : ys.getD k 0 ∈ ys := by
      rw [List.getD_eq_getElem?_getD, List.getElem?_eq_getElem hk]
      exact List.getElem_mem _
    have := h _ this
    simp only [Int.toNat_natCast] at h1
    omega
set_option maxRecDepth 100000 in
set_option maxHeartbeats 1000000 in
theorem twice_walk (A : Option Addr) (n c : Nat) (xs : List Int) (t m0 m1 : Int) {W : World} (h : IntsAt W A n xs) (hnil : A = none → n = 0 ∧ c = 0) (hn : n * 8 ≤ 140737488351232 ∧ n ≤ c)
    (hw : ∀ x ∈ xs, -9223372036854775808 ≤ x ∧ x ≤ 9223372036854775807) (ht : 0 ≤ t ∧ t ≤ 255) (hm0 : 0 ≤ m0 ∧ m0 ≤ 4294967295) (hm1 : 0 ≤ m1 ∧ m1 ≤ 4294967295) (w : World) (hW : W = w) :
    Calls Try.prog 4 #[.slice A n c, .int .u8 t, .agg #[.int .u32 m0, .int .u32 m1]] w fun e w' => e = .returned (.bool true) ∧ Below w.heap.size w w' := by
  subst hW
  by_cases h0 : n = 0
  · subst h0
    have h1 : 0 ≤ c := by omega
    cases A with
    | none =>
      obtain ⟨_, rfl⟩ := hnil rfl
      go_enter Try.func4, Try.ntmps4
      go_wp2_with (go_at_call 11; refine (sanity_any _).mono ?_; rintro e w1 ⟨rfl, hb1⟩)
      go_ret
      exact ⟨rfl, below_then (below_alloc _) hb1⟩
    | some ad =>
      clear hnil h
      go_enter Try.func4, Try.ntmps4
      go_wp2_with (go_at_call 11; refine (sanity_any _).mono ?_; rintro e w1 ⟨rfl, hb1⟩)
      go_ret
      exact ⟨rfl, below_then (below_alloc _) hb1⟩
  · obtain ⟨m, hm⟩ : ∃ m : Nat, m = min n 6 := ⟨_, rfl⟩
    have hm1' : 1 ≤ m := by omega
    have hmn : m ≤ n := by omega
    have hm6 : m ≤ 6 := by omega
    have hys := h.take m hmn
    rw [ints_take] at hys
    obtain ⟨ys, hy⟩ : ∃ ys, xs.take m = ys := ⟨_, rfl⟩
    rw [hy] at hys
    have hwy : ∀ x ∈ ys, x ≤ 9223372036854775807 := fun x hx => (hw x (List.mem_of_mem_take (hy ▸ hx))).2
    obtain ⟨b, off, rfl, hc0⟩ := IntsAt.at_ h 0 (by omega)
    clear h hw hy hc0 hnil
    obtain ⟨k, hk⟩ : ∃ k : Nat, t % (m : Int) = (k : Int) := ⟨(t % m).toNat, by have := Int.emod_nonneg t (b := m) (by omega); omega⟩
    have hkm : k < m := by have := Int.emod_lt_of_pos t (b := m) (by omega); omega
    have hmin : ∀ (ts : Array TypeId) (ty : TypeId) (w : World), (Builtin.min_ ts ty #[.int .i64 (n : Int), .int .i64 6]).run Try.prog w = .ok (.int .i64 (m : Int)) w := by
      intro ts ty w
      rw [run_min_int2]
      by_cases h6 : n ≤ 6
      · rw [if_neg (by omega)]
        obtain rfl : n = m := by omega
        rfl
      · rw [if_pos (by omega)]
        obtain rfl : m = 6 := by omega
        rfl
    have hz : ((m : Int) == 0) = false := by simp; omega
    have hcm : m ≤ c := by omega
    have HM := Lib.hid hm
    clear hm
    go_enter Try.func4, Try.ntmps4
    go_wp2_with fail
    refine (sanity_any _).mono ?_
    rintro e w1 ⟨rfl, hb1⟩
    have hc0 : w1.cell? ⟨W.heap.size, 0, none⟩ = some (.int .u32 m0) := (hb1.cell (p := ⟨W.heap.size, 0, none⟩) (by simp)).trans (by go_simp)
    have hc1 : w1.cell? ⟨W.heap.size, 1, none⟩ = some (.int .u32 m1) := (hb1.cell (p := ⟨W.heap.size, 1, none⟩) (by simp)).trans (by go_simp)
    have hb : Below W.heap.size W w1 := below_then (below_alloc _) hb1
    have hlt1 : W.heap.size < w1.heap.size := by have := hb1.size; simp at this; omega
    have hi1 := hys.below hb
    have hly := IntsAt.length hi1
    have hm8 : m * 8 ≤ 140737488351232 := by omega
    have hk2 : k < ys.length := by omega
    have S1 := spends_is ys k m0 hk2 hm0.1
    have S3 := spends_is ys k (m0 + m1) hk2 (by omega)
    have S2 : m0 ≤ ys.getD k 0 → spends (spent ys k m0) k m1 = spends ys k (m0 + m1) := by
      intro hle
      rw [spends_is _ _ _ (by rw [spent_length]; exact hk2) hm1.1, spent_at _ _ _ hk2, S3]
      congr 1
      rw [eq_iff_iff]
      omega
    have HI := Lib.hid hi1
    have HB := Lib.hid hb
    have HB1 := Lib.hid hb1
    have HL := Lib.hid hly
    have HK := Lib.hid hk2
    have HS1 := Lib.hid S1
    have HS2 := Lib.hid S2
    have HS3 := Lib.hid S3
    have HKT := Lib.hid hk
    have HZ := Lib.hid hwy
    clear hi1 hb hb1 hly hk2 S1 S2 S3 hys hwy
    by_cases hone : m0 ≤ ys.getD k 0
    · have s1 : spends ys k m0 = true := by rw [HS1.out]; simpa using hone
      have HO := Lib.hid hone
      clear hone
      go_wp2_with fail
      try rw [HKT.out]
      refine (spend_yes _ _ _ _ _ _ _ HI.out (fun h => by cases h) hm8 HZ.out s1).mono ?_
      rintro e w2 ⟨v2, rfl, hown2, hb2⟩
      obtain ⟨A2, c2, rfl, hi2⟩ := owns_cells hown2
      have hnil2 : A2 = none → m = 0 ∧ c2 = 0 := by
        intro h
        obtain ⟨_, _, h', _⟩ := IntsAt.at_ hi2 0 (by omega)
        rw [h] at h'; cases h'
      have HI2 := Lib.hid hi2
      have HN2 := Lib.hid hnil2
      have HB2 := Lib.hid hb2
      have hc1' : w2.cell? ⟨W.heap.size, 1, none⟩ = some (.int .u32 m1) := (hb2.cell (p := ⟨W.heap.size, 1, none⟩) hlt1).trans hc1
      have hc0' : w2.cell? ⟨W.heap.size, 0, none⟩ = some (.int .u32 m0) := (hb2.cell (p := ⟨W.heap.size, 0, none⟩) hlt1).trans hc0
      have hlt2 : W.heap.size < w2.heap.size := Nat.lt_of_lt_of_le hlt1 hb2.size
      clear hown2 hi2 hnil2 hb2 s1
      by_cases htwo : spends ys k (m0 + m1) = true
      · have HT := Lib.hid htwo
        clear htwo
        go_wp2_with fail
        try rw [HKT.out]
        refine (spend_yes _ _ _ _ _ _ _ HI2.out HN2.out hm8 (spent_le _ _ _ hm0.1 HK.out HZ.out) (by rw [HS2.out HO.out]; exact HT.out)).mono ?_
        rintro e w3 ⟨v3, rfl, hown3, hb3⟩
        rw [spent_twice _ _ _ _ HK.out] at hown3
        obtain ⟨A3, c3, rfl, hi3⟩ := owns_cells hown3
        have HI3 := Lib.hid hi3
        have HB3 := Lib.hid hb3
        have hc1'' : w3.cell? ⟨W.heap.size, 1, none⟩ = some (.int .u32 m1) := (hb3.cell (p := ⟨W.heap.size, 1, none⟩) hlt2).trans hc1'
        have hc0'' : w3.cell? ⟨W.heap.size, 0, none⟩ = some (.int .u32 m0) := (hb3.cell (p := ⟨W.heap.size, 0, none⟩) hlt2).trans hc0'
        clear hown3 hi3 hb3
        go_wp2_with fail
        try rw [HKT.out]
        refine (spend_yes _ _ _ _ _ _ _ (HI.out.below (below_then HB2.out HB3.out)) (fun h => by cases h) hm8 HZ.out HT.out).mono ?_
        rintro e w4 ⟨v4, rfl, hown4, hb4⟩
        obtain ⟨A4, c4, rfl, hi4⟩ := owns_cells hown4
        have HI4 := Lib.hid hi4
        have HB4 := Lib.hid hb4
        clear hown4 hi4 hb4
        go_wp2_with fail
        refine (equal_yes _ _ _ _ _ _ _ (HI3.out.below HB4.out) HI4.out).mono ?_
        rintro e w5 ⟨rfl, k5, rfl⟩
        go_wp2_with fail
        go_ret
        exact ⟨rfl, below_drewN (below_then HB.out (below_then HB2.out (below_then HB3.out HB4.out))) _⟩
      · have hf : spends ys k (m0 + m1) = false := by simpa using htwo
        have HT := Lib.hid hf
        clear htwo hf
        go_wp2_with fail
        try rw [HKT.out]
        refine (spend_no _ _ _ _ _ _ _ HI2.out (by rw [HS2.out HO.out]; exact HT.out)).mono ?_
        rintro e w3 ⟨rfl, rfl⟩
        go_wp2_with fail
        try rw [HKT.out]
        refine (spend_no _ _ _ _ _ _ _ (HI.out.below HB2.out) HT.out).mono ?_
        rintro e w3 ⟨rfl, rfl⟩
        go_wp2_with fail
        refine (equal_yes _ _ 0 _ _ [] _ (CellsAt.nil _ _) (CellsAt.nil _ _)).mono ?_
        rintro e w5 ⟨rfl, k5, rfl⟩
        go_wp2_with fail
        go_ret
        exact ⟨rfl, below_drewN (below_then HB.out HB2.out) _⟩
    · have s1 : spends ys k m0 = false := by rw [HS1.out]; simpa using hone
      have s3 : spends ys k (m0 + m1) = false := by rw [HS3.out]; exact decide_eq_false (by omega)
      have H1 := Lib.hid s1
      have H3 := Lib.hid s3
      clear hone s1 s3
      go_wp2_with fail
      try rw [HKT.out]
      refine (spend_no _ _ _ _ _ _ _ HI.out H1.out).mono ?_
      rintro e w3 ⟨rfl, rfl⟩
      go_wp2_with fail
      try rw [HKT.out]
      refine (spend_no none 0 0 [] _ _ _ (CellsAt.nil _ _) (by simp [spends]; omega)).mono ?_
      rintro e w3 ⟨rfl, rfl⟩
      go_wp2_with fail
      try rw [HKT.out]
      refine (spend_no _ _ _ _ _ _ _ HI.out H3.out).mono ?_
      rintro e w3 ⟨rfl, rfl⟩
      go_wp2_with fail
      go_ret
      exact ⟨rfl, HB.out⟩
set_option maxRecDepth 100000 in
theorem twice_lifted (os : Os) (started : os.Started) (H : Type) (enc : TypeId × Value → H) :
    ReturnsInHanded {} Try.checked os 4 .any (Rows.accountTwiceSpec.pre6 enc Try.prog Try.f4 Rows.accountTwiceRow.domain false) (Rows.accountTwiceSpec.post enc Try.prog Try.f4 false true false false) := by
  refine law_lift (C := Try.checked) Try.own started (by kernel_rfl) Try.func4
    (ChangeSpec.witness6 (enc := enc) (C := Try.checked) false ⟨#[], #[.slice none 0 0, .int .u8 0, .agg #[.int .u32 0, .int .u32 0]], []⟩ 8 (by kernel_rfl) (by kernel_rfl) (by kernel_rfl) (by kernel_rfl))
    Try.laidOut (by kernel_rfl) rfl rfl Try.underlying4 ?_ ?_
  · intro ds hl
    match ds, hl with
    | [d1, d2, d3], _ => exact ⟨rfl, rfl, rfl⟩
  · intro W base args ds p hval0 hA0 hlt hsz0
    have hval : ∀ (j : Nat) t v, Try.f4.params[j]? = some t → args[j]? = some v → Value.okWide Try.prog W .any base t v := hval0
    have hA : DataW.TrodAll enc Try.prog W 0 (fun _ => true) true Try.f4.params.toList args.toList ds p := hA0
    have hsz : (DataW.weightsEach Try.prog Try.f4.params.toList ds).all (· ≤ reachBytes) = true := hsz0
    rw [Try.params4] at hA hval hsz
    clear hA0 hval0 hsz0
    obtain ⟨v0, v1, v2, d0, d1, d2, p0, p1, p2, rfl, rfl, rfl, h0, h1, h2⟩ := trodAll_three hA
    have hlt0 : ∀ x ∈ p0, x.block < W.heap.size := fun x hx => hlt x (by simp [hx])
    have hlt1 : ∀ x ∈ p1, x.block < W.heap.size := fun x hx => hlt x (by simp [hx])
    have hlt2 : ∀ x ∈ p2, x.block < W.heap.size := fun x hx => hlt x (by simp [hx])
    obtain ⟨Axs, nxs, cxs, xs, rfl, ixs, zxs, rxs, wxs⟩ := open_ints_at Try.underlying22 Try.underlying3 (by kernel_rfl) (by kernel_rfl) (hval 0 22 v0 rfl rfl) h0 hlt0 (fun el sp hd => sized_slice hsz (j := 0) rfl (by simp [hd]) Try.underlying22)
    obtain ⟨t, rfl, rfl, rfl, wt⟩ := open_int Try.underlying5 (hval 1 5 v1 rfl rfl) h1
    obtain ⟨m0, m1, rfl, wm0, wm1⟩ := open_int_array2 Try.underlying32 Try.underlying31 (by kernel_rfl) (by kernel_rfl) (hval 2 32 v2 rfl rfl) h2
    exact twice_walk Axs nxs cxs xs t m0 m1 ixs zxs rxs (fun x hx => bd_i64 (wxs x hx)) (bd_u8 wt) (bd_u32 wm0) (bd_u32 wm1) W rfl

/-- The statement. -/
theorem twice_holds : Rows.AccountTwiceSaid :=
  OpenClaim.holds_of_wide 4 Try.f4 rfl rfl rfl rfl rfl rfl rfl ⟨rfl, rfl, rfl, rfl, rfl⟩ rfl rfl rfl rfl rfl (by kernel_rfl) Try.func4 (by kernel_rfl)
    (of_decide_eq_true (by kernel_rfl)) (by unfold Func.isWrapper; first | (rw [if_pos (by decide +kernel)]; kernel_rfl) | (rw [if_neg (by decide +kernel)]; exact ⟨rfl, rfl⟩))
    (fun os started H enc _ => twice_lifted os started H enc)
#print axioms twice_holds
end Go.Proofs.Ytbbeoeoengogpaa
