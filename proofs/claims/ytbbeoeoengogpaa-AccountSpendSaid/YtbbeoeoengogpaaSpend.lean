/- Fuel is spent as by the reference implementation; the list that is passed is not changed (AccountSpend). No condition. -/
import Derived.Test.YtbbeoeoengogpaaA6
import Derived.Test.YtbbeoeoengogpaaAM
namespace Go.Proofs.Ytbbeoeoengogpaa
open Go.ChangeShapes Go.WideShapes Go.ChangeAt Go.RowKit
set_option linter.unusedVariables false

set_option maxRecDepth 100000 in
set_option maxHeartbeats 2000000 in
theorem spend_walk (A : Option Addr) (n c : Nat) (xs : List Int) (t q : Int) {W : World} (h : IntsAt W A n xs) (hnil : A = none → n = 0 ∧ c = 0) (hn : n * 8 ≤ 140737488351232 ∧ n ≤ c)
    (hw : ∀ x ∈ xs, -9223372036854775808 ≤ x ∧ x ≤ 9223372036854775807) (ht : I64 t) (hq : I64 q) (w : World) (hW : W = w) :
    Calls Try.prog 3 #[.slice A n c, .int .i64 t, .int .i64 q] w fun e w' => e = .returned (.bool true) ∧ Below w.heap.size w w' := by
  subst hW
  obtain ⟨m, hm⟩ : ∃ m : Nat, m = min n 6 := ⟨_, rfl⟩
  have hmn : m ≤ n := by omega
  have hm6 : m ≤ 6 := by omega
  have hcm : m ≤ c := by omega
  have hys := h.take m hmn
  rw [ints_take] at hys
  obtain ⟨ys, hy⟩ : ∃ ys, xs.take m = ys := ⟨_, rfl⟩
  rw [hy] at hys
  have hwy : ∀ x ∈ ys, x ≤ 9223372036854775807 := fun x hx => (hw x (List.mem_of_mem_take (hy ▸ hx))).2
  have hnil' : A = none → m = 0 ∧ c = 0 := fun h => by have := hnil h; omega
  have hmin : ∀ (ts : Array TypeId) (ty : TypeId) (w : World), (Builtin.min_ ts ty #[.int .i64 (n : Int), .int .i64 6]).run Try.prog w = .ok (.int .i64 (m : Int)) w := by
    intro ts ty w
    rw [run_min_int2]
    by_cases h6 : n ≤ 6
    · rw [if_neg (by omega)]
      obtain rfl : n = m := by omega
      rfl
    · rw [if_pos (by omega)]
      obtain rfl : m = 6 := by omega
      rfl
  have HM := Lib.hid hm
  have HY := Lib.hid hys
  have HZ := Lib.hid hwy
  have HN := Lib.hid hnil'
  have HL := Lib.hid (IntsAt.length hys)
  have hm8 : m * 8 ≤ 140737488351232 := by omega
  clear hm hys hwy h hnil hw hy hnil'
  go_enter Try.func3, Try.ntmps3
  go_wp2_with fail
  refine (sanity_any _).mono ?_
  rintro e w1 ⟨rfl, hb1⟩
  have HB1 := Lib.hid hb1
  clear hb1
  go_wp2_with fail
  refine (clone_any _ _ _ _ _ (HY.out.below HB1.out) HN.out hm8).mono ?_
  rintro e w2 ⟨v2, rfl, hown2, hb2⟩
  obtain ⟨A2, c2, rfl, hi2⟩ := owns_cells hown2
  have HI2 := Lib.hid hi2
  have HB2 := Lib.hid (below_then HB1.out hb2)
  clear hown2 hi2 hb2
  have HIY := Lib.hid (HY.out.below HB2.out)
  go_wp2_with fail
  go_loopw [9] (fun i wr => ∃ k : Nat, k ≤ m + 2 ∧ i = .int .i64 ((k : Int) - 1) ∧ Below w2.heap.size w2 wr) (fun i _ => m + 2 - (intOf i + 1).toNat)
  case atStart => exact ⟨0, by omega, rfl, Below.refl _ _⟩
  case round =>
    obtain ⟨wo, rfl⟩ : ∃ wo : World, wo = wr := ⟨_, rfl⟩
    obtain ⟨k, hk, rfl, hbr⟩ := hrel
    have HR := Lib.hid hbr
    clear hbr
    by_cases hlt : k < m + 2
    · have d1 : decide ((k : Int) - 1 ≤ m) = true := by simp; omega
      obtain ⟨kk, hkk⟩ : ∃ kk : Int, (k : Int) - 1 = kk := ⟨_, rfl⟩
      have hkI : I64 kk := by unfold I64; omega
      obtain ⟨X, hX⟩ : ∃ X : Nat → Nat → Int, X = fun k i => (([[t, q], [kk, q], [kk, 1], [kk, 0]].getD k []).getD i 0) := ⟨_, rfl⟩
      rw [hkk] at d1 ⊢
      have HK := Lib.hid hkk
      have HX := Lib.hid hX
      have hsz : w2.heap.size ≤ wo.heap.size := HR.out.size
      have hkb : kk ≤ m ∧ -1 ≤ kk := by omega
      clear hX hkk
      go_wp2_with fail
      obtain ⟨w3, hw3⟩ : ∃ w3, (wo.alloc (.cells #[.int .i64 t, .int .i64 q, .int .i64 kk, .int .i64 q, .int .i64 kk, .int .i64 1, .int .i64 kk, .int .i64 0] 25)) = w3 := ⟨_, rfl⟩
      have hcc : ∀ k i, k < 4 → i < 2 → w3.cell? ⟨wo.heap.size, k * 2 + i, none⟩ = some (.int .i64 (X k i)) := by
        intro k i hk hi
        rw [← hw3, HX.out]
        simp only [World.cell?, heap_alloc_new]
        rcases k with _ | _ | _ | _ | k <;> rcases i with _ | _ | i <;> first | rfl | omega
      have hs3 : w3.heap.size = wo.heap.size + 1 := by rw [← hw3]; simp
      have hB3 : Below w2.heap.size w2 w3 := by rw [← hw3]; exact HR.out.alloc hsz _
      rw [hw3]
      have HC := Lib.hid hcc
      have HS := Lib.hid hs3
      have HB3 := Lib.hid hB3
      clear hcc hs3 hB3 hw3
      go_loopw [43] (fun i wq => ∃ j : Nat, j ≤ 4 ∧ i = .int .i64 j ∧ Below w3.heap.size w3 wq) (fun i _ => 4 - (intOf i).toNat)
      case atStart => exact ⟨0, by omega, rfl, Below.refl _ _⟩
      case round =>
        obtain ⟨wm, rfl⟩ : ∃ wm : World, wm = wr := ⟨_, rfl⟩
        obtain ⟨j, hj, rfl, hbq⟩ := hrel
        have HQ := Lib.hid hbq
        clear hbq
        by_cases hlt4 : j < 4
        · have hrd : ∀ i, i < 2 → wm.cell? ⟨wo.heap.size, j * 2 + i, none⟩ = some (.int .i64 (X j i)) := fun i hi => (HQ.out.cell (p := ⟨wo.heap.size, j * 2 + i, none⟩) (by rw [HS.out]; simp)).trans (HC.out j i hlt4 hi)
          have r0 := hrd 0 (by omega)
          have r1 := hrd 1 (by omega)
          generalize X j 0 = a at r0
          generalize X j 1 = b at r1
          simp only [Nat.add_zero] at r0
          have hB3q : Below w2.heap.size w2 wm := HB3.out.trans (HQ.out.mono HB3.out.size)
          have hq3 : w3.heap.size ≤ wm.heap.size := HQ.out.size
          have HYQ := Lib.hid (HIY.out.below hB3q)
          have H3Q := Lib.hid hB3q
          clear hrd hB3q
          by_cases hsp : spends ys a b = true
          · have hpos : 0 < m := by
              have := hsp
              simp only [spends, Bool.and_eq_true, decide_eq_true_eq] at this
              have := HL.out
              omega
            have HSP := Lib.hid hsp
            clear hsp
            go_wp2_with fail
            refine (spend_yes _ _ _ _ _ _ _ (HYQ.out.alloc _) HN.out hm8 HZ.out HSP.out).mono ?_
            rintro e w4 ⟨v4, rfl, hown4, hb4⟩
            obtain ⟨g, cap, rfl, hg, hgs⟩ := own_form hown4 hpos
            obtain ⟨A4, c4, hA4, hi4⟩ := owns_cells hown4
            cases hA4
            simp only [World.size_alloc] at hg hown4
            have hbl : (wm.alloc (.cells #[.int .i64 a, .int .i64 b] 25)).heap.size ≤ w4.heap.size := hb4.size
            simp only [World.size_alloc] at hbl
            have a0 : w4.cell? ⟨wm.heap.size, 0, none⟩ = some (.int .i64 a) := (hb4.cell (p := ⟨wm.heap.size, 0, none⟩) (by simp)).trans (by go_simp)
            have a1 : w4.cell? ⟨wm.heap.size, 1, none⟩ = some (.int .i64 b) := (hb4.cell (p := ⟨wm.heap.size, 1, none⟩) (by simp)).trans (by go_simp)
            have hbw : Below wm.heap.size wm w4 := below_then (below_alloc _) hb4
            have HY4 := Lib.hid (HYQ.out.below hbw)
            have HO4 := Lib.hid hown4
            have HI4 := Lib.hid hi4
            have HB4 := Lib.hid hbw
            clear hown4 hi4 hb4 hbw
            go_wp2_with fail
            refine (refspend_yes _ _ _ _ _ _ _ HY4.out hm8 HZ.out HSP.out).mono ?_
            rintro e w5 ⟨v5, rfl, hown5, hb5⟩
            obtain ⟨A5, c5, rfl, hi5⟩ := owns_cells hown5
            have HB5 := Lib.hid hb5
            have HI5 := Lib.hid hi5
            have HO5 := Lib.hid (pw_own_below HO4.out HB5.out)
            clear hown5 hi5 hb5
            go_wp2_with fail
            refine (equal_yes _ _ _ _ _ _ _ (HI4.out.below HB5.out) HI5.out).mono ?_
            rintro e w6 ⟨rfl, k6, rfl⟩
            go_wp2_with fail
            go_loopw [76] (fun i wx => ∃ l : Nat, l ≤ m ∧ i = .int .i64 l ∧ Below wm.heap.size wm wx ∧ ∃ zs : List Int, wx.ownsRow (wm.heap.size + 1) 3 1 (.slice (some ⟨g, 0, none⟩) m cap) m (ints zs)) (fun i _ => m - (intOf i).toNat)
            case atStart => exact ⟨0, by omega, rfl, below_drewN (below_then HB4.out HB5.out) _, _, HO5.out⟩
            case round =>
              obtain ⟨l, hl, rfl, hbx, zs, hox⟩ := hrel
              have HBX := Lib.hid hbx
              by_cases hlm : l < m
              · have hcl := own_cell hox l hlm
                have hfl := hox.frozenAt l
                have HOX := Lib.hid (own_set hox l (-9))
                clear hox hbx
                go_wp2_with fail
                go_roundw
                case rel => exact ⟨l + 1, by omega, by go_num, HBX.out.setCell (p := ⟨g, l, none⟩) (by show wm.heap.size ≤ g; omega) _, _, HOX.out⟩
                case measure => simp [intOf]; omega
              · obtain rfl : l = m := by omega
                clear hox hbx
                go_wp2_with fail
                go_roundw
                case rel => exact ⟨j + 1, by omega, by go_num, HQ.out.trans (HBX.out.mono HQ.out.size)⟩
                case measure => simp [intOf]; omega
          · have hsf : spends ys a b = false := by simpa using hsp
            have HSP := Lib.hid hsf
            clear hsp hsf
            go_wp2_with fail
            refine (spend_no _ _ _ _ _ _ _ (HYQ.out.alloc _) HSP.out).mono ?_
            rintro e w4 ⟨rfl, rfl⟩
            go_wp2_with fail
            refine (refspend_no _ _ _ _ _ _ _ (HYQ.out.alloc _) HSP.out).mono ?_
            rintro e w4 ⟨rfl, rfl⟩
            go_wp2_with fail
            refine (equal_yes _ _ 0 _ _ [] _ (CellsAt.nil _ _) (CellsAt.nil _ _)).mono ?_
            rintro e w6 ⟨rfl, k6, rfl⟩
            go_wp2_with fail
            go_loopw [76] (fun i wx => i = .int .i64 0 ∧ Below wm.heap.size wm wx) (fun _ _ => 0)
            case atStart => exact ⟨rfl, below_drewN (below_alloc _) _⟩
            case round =>
              obtain ⟨rfl, hbx⟩ := hrel
              have HBX := Lib.hid hbx
              clear hbx
              go_wp2_with fail
              go_roundw
              case rel => exact ⟨j + 1, by omega, by go_num, HQ.out.trans (HBX.out.mono HQ.out.size)⟩
              case measure => simp [intOf]; omega
        · obtain rfl : j = 4 := by omega
          go_wp2_with fail
          go_roundw
          case rel => exact ⟨k + 1, by omega, by rw [← HK.out]; exact congrArg _ (by omega), HB3.out.trans (HQ.out.mono HB3.out.size)⟩
          case measure => simp [intOf]; omega
    · obtain rfl : k = m + 2 := by omega
      have d1 : decide (((m + 2 : Nat) : Int) - 1 ≤ m) = false := by simp; omega
      go_wp2_with fail
      refine (equal_yes _ _ _ _ _ _ _ (HIY.out.below HR.out) (HI2.out.below HR.out)).mono ?_
      rintro e w6 ⟨rfl, k6, rfl⟩
      go_wp2_with fail
      go_ret
      exact ⟨rfl, below_drewN (below_then HB2.out HR.out) _⟩
set_option maxRecDepth 100000 in
theorem spend_lifted (os : Os) (started : os.Started) (H : Type) (enc : TypeId × Value → H) :
    ReturnsInHanded {} Try.checked os 3 .any (Rows.accountSpendSpec.pre6 enc Try.prog Try.f3 Rows.accountSpendRow.domain false) (Rows.accountSpendSpec.post enc Try.prog Try.f3 false true false false) := by
  refine law_lift (C := Try.checked) Try.own started (by kernel_rfl) Try.func3
    (ChangeSpec.witness6 (enc := enc) (C := Try.checked) false ⟨#[], #[.slice none 0 0, .int .i64 0, .int .i64 0], []⟩ 8 (by kernel_rfl) (by kernel_rfl) (by kernel_rfl) (by kernel_rfl))
    Try.laidOut (by kernel_rfl) rfl rfl Try.underlying4 ?_ ?_
  · intro ds hl
    match ds, hl with
    | [d1, d2, d3], _ => exact ⟨rfl, rfl, rfl⟩
  · intro W base args ds p hval0 hA0 hlt hsz0
    have hval : ∀ (j : Nat) t v, Try.f3.params[j]? = some t → args[j]? = some v → Value.okWide Try.prog W .any base t v := hval0
    have hA : DataW.TrodAll enc Try.prog W 0 (fun _ => true) true Try.f3.params.toList args.toList ds p := hA0
    have hsz : (DataW.weightsEach Try.prog Try.f3.params.toList ds).all (· ≤ reachBytes) = true := hsz0
    rw [Try.params3] at hA hval hsz
    clear hA0 hval0 hsz0
    obtain ⟨v0, v1, v2, d0, d1, d2, p0, p1, p2, rfl, rfl, rfl, h0, h1, h2⟩ := trodAll_three hA
    have hlt0 : ∀ x ∈ p0, x.block < W.heap.size := fun x hx => hlt x (by simp [hx])
    have hlt1 : ∀ x ∈ p1, x.block < W.heap.size := fun x hx => hlt x (by simp [hx])
    have hlt2 : ∀ x ∈ p2, x.block < W.heap.size := fun x hx => hlt x (by simp [hx])
    obtain ⟨Axs, nxs, cxs, xs, rfl, ixs, zxs, rxs, wxs⟩ := open_ints_at Try.underlying22 Try.underlying3 (by kernel_rfl) (by kernel_rfl) (hval 0 22 v0 rfl rfl) h0 hlt0 (fun el sp hd => sized_slice hsz (j := 0) rfl (by simp [hd]) Try.underlying22)
    obtain ⟨t, rfl, rfl, rfl, wt⟩ := open_int Try.underlying3 (hval 1 3 v1 rfl rfl) h1
    obtain ⟨m, rfl, rfl, rfl, wm⟩ := open_int Try.underlying3 (hval 2 3 v2 rfl rfl) h2
    exact spend_walk Axs nxs cxs xs t m ixs zxs rxs (fun x hx => bd_i64 (wxs x hx)) (bd_i64 wt) (bd_i64 wm) W rfl

/-- The statement. -/
theorem spend_holds : Rows.AccountSpendSaid :=
  OpenClaim.holds_of_wide 3 Try.f3 rfl rfl rfl rfl rfl rfl rfl ⟨rfl, rfl, rfl, rfl, rfl⟩ rfl rfl rfl rfl rfl (by kernel_rfl) Try.func3 (by kernel_rfl)
    (of_decide_eq_true (by kernel_rfl)) (by unfold Func.isWrapper; first | (rw [if_pos (by decide +kernel)]; kernel_rfl) | (rw [if_neg (by decide +kernel)]; exact ⟨rfl, rfl⟩))
    (fun os started H enc _ => spend_lifted os started H enc)
#print axioms spend_holds
end Go.Proofs.Ytbbeoeoengogpaa
