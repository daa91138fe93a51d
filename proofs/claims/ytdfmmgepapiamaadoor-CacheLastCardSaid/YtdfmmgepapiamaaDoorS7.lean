/- The reference model of a site in memory: Learn, Forget, Shapes. -/
import Derived.Test.YtdfmmgepapiamaaDoorS6
namespace Go.Proofs.YtdfmmgepapiamaaDoor
open Go.RowKit
set_option linter.unusedVariables false

theorem Tryd.pair : (Tryd.prog.info? 76).map (fun i => (i.zero, i.size, i.bytes)) = some (some (.agg #[.int .i64 0, .int .i64 0]), 2, 16) := by kernel_rfl
theorem grown_alloc {w w1 : World} {o : Obj} {row : Option Nat} (hg : (w.alloc o).grownBy w1 row) : w.grownBy w1 row :=
  ⟨hg.os, hg.tape, hg.output, Nat.le_trans (by simp) hg.size, fun i hi hne => (hg.block i (by simp; omega) hne).trans (Below.heap_alloc w o i hi)⟩
set_option maxHeartbeats 4000000 in
theorem rlearn {n : Nat} {w : World} {q : Nat} {v : Value} {s : CS} (h : RSite n w q v s) (hn : n ≤ w.heap.size) (x y : Int) (hx : -9223372036854775808 ≤ x ∧ x ≤ 9223372036854775807) (hy : -9223372036854775808 ≤ y ∧ y ≤ 9223372036854775807) :
    Calls Tryd.prog 29 #[.pointer (some ⟨q, 0, none⟩), .int .i64 x, .int .i64 y] w fun e w' => e = .returned (.int .i64 (s.learn x y).1) ∧ (∃ v', RSite n w' q v' (s.learn x y).2) ∧ Keep (fun k => k = q ∨ v.ownBlock = some k) w w' := by
  obtain ⟨A, c, hv, c0, c1, c2, c3, fz, hp⟩ := h.cells
  have hl := h.ok.len
  have HL := Lib.hid (learn_ok h.ok x y hx.2 hy.2)
  have H := Lib.hid h
  have HP := Lib.hid hp
  have f0 := fz 0
  have f1 := fz 1
  by_cases h1 : x < 0
  · have hEq : s.learn x y = (1, s) := by unfold CS.learn; rw [if_pos (.inl h1)]
    rw [hEq] at HL ⊢
    clear h hEq fz hp hv
    go_enter Tryd.func29, Tryd.ntmps29
    go_wp2_with fail
    go_ret
    exact ⟨rfl, ⟨v, H.out⟩, Keep.refl _ _⟩
  have b1 : decide (x < 0) = false := by simpa using h1
  by_cases h2 : y < 0
  · have hEq : s.learn x y = (1, s) := by unfold CS.learn; rw [if_pos (.inr h2)]
    rw [hEq] at HL ⊢
    clear h hEq fz hp hv
    go_enter Tryd.func29, Tryd.ntmps29
    go_wp2_with fail
    go_ret
    exact ⟨rfl, ⟨v, H.out⟩, Keep.refl _ _⟩
  have b2 : decide (y < 0) = false := by simpa using h2
  have hnn : ¬ (x < 0 ∨ y < 0) := by omega
  cases hfl : s.full with
  | true =>
    have hEq : s.learn x y = (2, s) := by unfold CS.learn; rw [if_neg hnn, if_pos hfl]
    rw [hEq] at HL ⊢
    rw [hfl] at c1
    clear h hEq fz hfl hp hv
    go_enter Tryd.func29, Tryd.ntmps29
    go_wp2_with fail
    go_ret
    exact ⟨rfl, ⟨v, H.out⟩, Keep.refl _ _⟩
  | false =>
    rw [hfl] at c1
    obtain ⟨m, hm'⟩ : ∃ m, s.l.length = m := ⟨_, rfl⟩
    have HM := Lib.hid hm'
    have HV := Lib.hid hv
    rcases idx_cases s.l x with ⟨k, e, hk⟩ | ⟨e, ha⟩
    · have hEq : s.learn x y = (0, { s with l := s.l.set k (x, y) }) := by unfold CS.learn; rw [if_neg hnn, if_neg (by rw [hfl]; simp), e]
      rw [hEq] at HL ⊢
      have hkl := hk.1
      have HK := Lib.hid hk
      rw [hm'] at c0 hl hkl
      clear h hEq hp fz e hk hm' hfl hv hnn
      go_enter Tryd.func29, Tryd.ntmps29
      go_wp2_with fail
      go_loop [7] (fun i => ∃ j : Nat, j ≤ k ∧ i = .int .i64 (j : Int)) (fun i => k + 1 - (intOf i).toNat)
      case atStart => exact ⟨0, Nat.zero_le _, rfl⟩
      case round =>
        obtain ⟨j, hj, rfl⟩ := hrel
        obtain ⟨g, rfl, q1, q2, q3, q4, q5⟩ := HP.out j (by rw [HM.out]; omega)
        have hltn : decide (j < m) = true := by simp; omega
        have hjm : j < m := by omega
        by_cases hjk : j = k
        · subst hjk
          rw [HK.out.2.1] at q1
          have hb : (x == x) = true := by simp
          go_wp2_with fail
          go_ret
          have hst : Keep (fun k => k = g) w (w.setCell ⟨g, j * 2 + 1, none⟩ (.int .i64 y)) := keep_set (Keep.refl _ w) _ _
          have ho := H.out.own
          rw [HV.out] at ho
          have hset := (ho.stored (j * 2 + 1) (.int .i64 y)).1
          rw [prc_set s.l j x y HK.out.1 HK.out.2.1] at hset
          refine ⟨rfl, ⟨v, ⟨(hst.block q H.out.lt (fun e => q4 e.symm)).trans H.out.blk, ?_, H.out.base, HL.out⟩⟩, Keep.mono hst (fun i hi => .inr (by rw [HV.out, hi]; rfl))⟩
          rw [HV.out]
          simpa using hset
        · have hne := HK.out.2.2 j (by omega)
          obtain ⟨a, ha⟩ : ∃ a, (prAt s.l j).1 = a := ⟨_, rfl⟩
          rw [ha] at q1 hne
          have hb : (a == x) = false := by simpa using hne
          clear ha hne q2 q3 q4
          go_wp2_with fail
          exact ⟨⟨j + 1, by omega, by go_num⟩, by simp [intOf]; omega⟩
    · have HK := Lib.hid ha
      by_cases h4 : s.l.length = 4
      · have hEq : s.learn x y = (2, { s with l := [], full := true }) := by unfold CS.learn; rw [if_neg hnn, if_neg (by rw [hfl]; simp), e]; simp only [h4, if_true]
        rw [hEq] at HL ⊢
        rw [hm'] at c0 hl h4
        have hb4 : ((m : Int) == 4) = true := by simp [h4]
        clear h hEq hp fz e ha hm' hfl hv hnn h4
        go_enter Tryd.func29, Tryd.ntmps29
        go_wp2_with fail
        go_loop [7] (fun i => ∃ j : Nat, j ≤ m ∧ i = .int .i64 (j : Int)) (fun i => m + 1 - (intOf i).toNat)
        case atStart => exact ⟨0, Nat.zero_le _, rfl⟩
        case round =>
          obtain ⟨j, hj, rfl⟩ := hrel
          by_cases hjk : j = m
          · subst hjk
            have hltn : decide (j < j) = false := by simp
            go_wp2_with fail
            go_ret
            have hk0 : Keep (fun k => k = q) w ((w.setCell ⟨q, 0, none⟩ (.slice none 0 0)).setCell ⟨q, 1, none⟩ (.bool true)) := keep_set (keep_set (Keep.refl _ w) _ _) _ _
            refine ⟨rfl, ⟨.slice none 0 0, ⟨?_, World.ownsRow_nil _ _ _ _, H.out.base, HL.out⟩⟩, Keep.mono hk0 (fun i hi => .inl hi)⟩
            rw [blk_set (blk_set H.out.blk 0 _) 1 _]
            rfl
          · obtain ⟨g, rfl, q1, q2, q3, q4, q5⟩ := HP.out j (by rw [HM.out]; omega)
            have hltn : decide (j < m) = true := by simp; omega
            have hjm : j < m := by omega
            have hne := HK.out j (by rw [HM.out]; omega)
            obtain ⟨a, ha⟩ : ∃ a, (prAt s.l j).1 = a := ⟨_, rfl⟩
            rw [ha] at q1 hne
            have hb : (a == x) = false := by simpa using hne
            clear ha hne q2 q3 q4
            go_wp2_with fail
            exact ⟨⟨j + 1, by omega, by go_num⟩, by simp [intOf]; omega⟩
      · have hEq : s.learn x y = (0, { s with l := s.l ++ [(x, y)] }) := by unfold CS.learn; rw [if_neg hnn, if_neg (by rw [hfl]; simp), e]; simp only [h4, if_false]
        rw [hEq] at HL ⊢
        obtain ⟨i0, hi, hz0, hz1, hz2⟩ := info_parts Tryd.pair
        have HI := Lib.hid hi
        have HZ0 := Lib.hid hz0
        have HZ1 := Lib.hid hz1
        have HZ2 := Lib.hid hz2
        have ho := h.own
        rw [hv] at ho
        rw [hm'] at c0 hl h4 ho
        have HO := Lib.hid ho
        have hb4 : ((m : Int) == 4) = false := by simp; omega
        have hql := h.lt
        have hne : ∀ k, (Value.slice A m c).ownBlock = some k → k ≠ q := by have := h.ne; rw [hv, hm'] at this; exact this
        have HNE := Lib.hid hne
        clear h hEq hp fz e ha hm' hfl hv hnn h4 hi hz0 hz1 hz2 ho hne
        go_enter Tryd.func29, Tryd.ntmps29
        go_wp2_with fail
        go_loop [7] (fun i => ∃ j : Nat, j ≤ m ∧ i = .int .i64 (j : Int)) (fun i => m + 1 - (intOf i).toNat)
        case atStart => exact ⟨0, Nat.zero_le _, rfl⟩
        case round =>
          obtain ⟨j, hj, rfl⟩ := hrel
          by_cases hjk : j = m
          · subst hjk
            have hltn : decide (j < j) = false := by simp
            go_wp2_with (at_builtin; refine wpList_append_lies _ rfl _ _ _ rfl n 76 i0 _ 2 16 Tryd.underlying63 HI.out HZ0.out HZ1.out HZ2.out rfl (by decide) _ j (prc s.l) rfl (HO.out.alloc _) ⟨w.heap.size, 0, none⟩ 1 1 [.int .i64 x, .int .i64 y] rfl rfl (by exact World.news_of_block (cs := #[.int .i64 x, .int .i64 y]) (t := 76) (fr := (0, 0)) (by exact heap_alloc_new _ _)) (by simp [Value.oneCell']) (by omega) (by unfold maxLen; omega) (by omega) (by simp; omega) _ rfl ?_; intro g cap w1 hown hgrow hat hlt; have hgw := grown_alloc hgrow; have d0 := (World.cell?_of_block (a := ⟨q, 0, none⟩) (hgw.block q hql (fun e => HNE.out q e.symm rfl))).trans c0; have g0 := (World.frozen?_of_block (a := ⟨q, 0, none⟩) (hgw.block q hql (fun e => HNE.out q e.symm rfl))).trans f0; have HOW := Lib.hid hown; have HGW := Lib.hid hgw; have HAT := Lib.hid hat; clear hown hgrow hat hgw)
            go_ret
            have hgq : g ≠ q := by
              rcases HAT.out with e | e
              · exact HNE.out g e
              · have : (w.alloc (.cells #[.int .i64 x, .int .i64 y] 76)).heap.size = w.heap.size + 1 := by simp
                rw [this] at e
                omega
            have hk1 : Keep (fun k => (Value.slice A j c).ownBlock = some k) w w1 := (Keep.refl _ w).grown HGW.out (fun k e => .inl e)
            have hb1 : w1.heap[q]? = _ := (hk1.block q hql (fun e => HNE.out q e rfl)).trans H.out.blk
            have hb2 := blk_set hb1 0 (.slice (some ⟨g, 0, none⟩) (j + 1) cap)
            have hkq : Keep (fun k => k = q) w1 (w1.setCell ⟨q, 0, none⟩ (.slice (some ⟨g, 0, none⟩) (j + 1) cap)) := keep_set (Keep.refl _ w1) _ _
            refine ⟨rfl, ⟨.slice (some ⟨g, 0, none⟩) (j + 1) cap, ⟨?_, ?_, H.out.base, HL.out⟩⟩, Keep.trans (Keep.mono hk1 (fun i hi => .inr (by rw [HV.out, HM.out]; exact hi))) (Keep.mono hkq (fun i hi => .inl hi))⟩
            · show (w1.setCell ⟨q, 0, none⟩ _).heap[q]? = _
              rw [hb2]
              rfl
            · have := hkq.own HOW.out (fun b hb => by have : g = b := by simpa [Value.ownBlock] using hb
                                                      omega)
              rw [prc_append]
              simp only [List.length_append, List.length_singleton, HM.out]
              exact this
          · obtain ⟨g, rfl, q1, q2, q3, q4, q5⟩ := HP.out j (by rw [HM.out]; omega)
            have hltn : decide (j < m) = true := by simp; omega
            have hjm : j < m := by omega
            have hne := HK.out j (by rw [HM.out]; omega)
            obtain ⟨a, ha⟩ : ∃ a, (prAt s.l j).1 = a := ⟨_, rfl⟩
            rw [ha] at q1 hne
            have hb : (a == x) = false := by simpa using hne
            clear ha hne q2 q3 q4
            go_wp2_with fail
            exact ⟨⟨j + 1, by omega, by go_num⟩, by simp [intOf]; omega⟩
end Go.Proofs.YtdfmmgepapiamaaDoor
