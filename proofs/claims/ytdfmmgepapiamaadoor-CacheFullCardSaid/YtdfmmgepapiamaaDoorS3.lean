/- A cache's site: Shapes. -/
import Derived.Test.YtdfmmgepapiamaaDoorS2
import Derived.Test.YtdfmmgepapiamaaDoorKE
namespace Go.Proofs.YtdfmmgepapiamaaDoor
open Go.RowKit
set_option linter.unusedVariables false

theorem shapes_snoc (l : List (Int × Int)) (k : Nat) (h : k < l.length) : (l.map (·.1)).take k ++ [(prAt l k).1] = (l.map (·.1)).take (k + 1) := by
  rw [List.take_succ_eq_append_getElem (by simpa using h), List.getElem_map, pr_getElem h]
set_option maxHeartbeats 1000000 in
theorem shapes_any {w : World} {p : Nat} {s : CS} (h : IsSite w p s) :
    Calls Tryd.prog 17 #[.pointer (some ⟨p, 0, none⟩)] w fun e w' => ∃ v, e = .returned v ∧ w'.ownsRow w.heap.size 3 1 v s.l.length (ints s.shapes) ∧ Since w.heap.size w w' := by
  obtain ⟨c8, c9, c10, c11, fz⟩ := h.cells
  have H := Lib.hid h
  have hl4 := h.ok.len
  have hpl := h.lt
  obtain ⟨m, hm⟩ : ∃ m, s.l.length = m := ⟨_, rfl⟩
  have HM := Lib.hid hm
  rw [hm] at c8 hl4
  clear h hm c9 c10 c11 fz
  go_enter Tryd.func17, Tryd.ntmps17
  go_wp2_with fail
  clear c8
  go_loopw [3, 11] (fun v i wr => ∃ j : Nat, j ≤ m ∧ i = .int .i64 (j : Int) ∧ wr.ownsRow w.heap.size 3 1 v j (ints (s.shapes.take j)) ∧ Since w.heap.size w wr) (fun _ i _ => m - (intOf i).toNat)
  case atStart => exact ⟨0, by omega, rfl, by simpa [ints] using World.ownsRow_nil _ _ _ _, Keep.refl _ _⟩
  case round =>
    obtain ⟨j, hj, rfl, hown, hbel⟩ := hrel
    have HO := Lib.hid hown; clear hown
    have HB := Lib.hid hbel; clear hbel
    have hsz : w.heap.size ≤ wr.heap.size := HB.out.size
    obtain ⟨wo, rfl⟩ : ∃ wo : World, wo = wr := ⟨_, rfl⟩
    by_cases hlt : j < m
    · obtain ⟨q1, q2⟩ := (H.out.since HB.out hpl).pair j (by rw [HM.out]; exact hlt)
      have hb : decide (j < m) = true := by simpa using hlt
      have hj4 : j < 4 := by omega
      obtain ⟨a, ha⟩ : ∃ a, (prAt s.l j).1 = a := ⟨_, rfl⟩
      have HA := Lib.hid ha
      rw [ha] at q1
      clear q2 ha
      go_wp2_with (at_builtin; refine wpList_append_src 37 3 _ 8 w.heap.size Tryd.ints _ _ rfl rfl _ j (ints (s.shapes.take j)) rfl (by exact HO.out.alloc _) _ 1 1 (ints [a]) rfl ?_ ?_ (ints_one _) ?_ (by decide) ?_ ?_)
      · intro h; cases h
      · exact cells_new _ _ _
      · omega
      · simp; omega
      · intro v' w' hown hg hnil hblk
        have hown' : w'.ownsRow w.heap.size 3 1 v' (j + 1) (ints (s.shapes.take (j + 1))) := by
          unfold CS.shapes
          rw [← shapes_snoc _ _ (by rw [HM.out]; exact hlt), HA.out, ints_append]
          exact hown
        have hbel' : Since w.heap.size w w' := (Keep.trans HB.out (Since.of ((Keep.refl _ wo).alloc' _))).grown hg (fun k e => .inl (own_low HO.out e))
        have HO' := Lib.hid hown'
        have HB' := Lib.hid hbel'
        clear hown hg hnil hblk hown' hbel' q1
        go_wp2
        go_roundw
        case rel => exact ⟨j + 1, by omega, by go_num, HO'.out, HB'.out⟩
        case measure => simp [intOf]; omega
    · obtain rfl : j = m := by omega
      have hb : decide (j < j) = false := by simp
      have hown := HO.out
      rw [List.take_of_length_le (by unfold CS.shapes; rw [List.length_map, HM.out]; exact Nat.le_refl _)] at hown
      obtain ⟨A, c, rfl⟩ := own_slice hown
      have HW := Lib.hid hown; clear hown
      go_wp2_with fail
      go_ret
      exact ⟨_, rfl, by rw [HM.out]; exact HW.out, HB.out⟩
end Go.Proofs.YtdfmmgepapiamaaDoor
