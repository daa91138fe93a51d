/- The reference model of a site in memory: Text. -/
import Derived.Test.YtdfmmgepapiamaaDoorS8
import Derived.Test.YtdfmmgepapiamaaDoorKD
namespace Go.Proofs.YtdfmmgepapiamaaDoor
open Go.RowKit
set_option linter.unusedVariables false

theorem join_snoc (l : List Bytes) (x sep : Bytes) : Lib.join (l ++ [x]) sep = if l = [] then x else Lib.join l sep ++ sep ++ x := by
  cases l with
  | nil => simp [Lib.join_one]
  | cons y r =>
    rw [List.cons_append, Lib.join_cons, Lib.join_cons]
    simp [Lib.joinTail]
theorem text_snoc (s : CS) (k : Nat) (h : k < s.l.length) : joinB (s.parts.take (k + 1)) [32] = (if k = 0 then [] else joinB (s.parts.take k) [32] ++ [32]) ++ pieceB (prAt s.l k) := by
  rw [← parts_snoc s k h]
  unfold joinB
  rw [join_snoc]
  have hl : k < s.parts.length := by unfold CS.parts; rw [List.length_map]; exact h
  by_cases h0 : k = 0
  · subst h0
    simp
  · rw [if_neg (by
      intro e
      have := congrArg List.length e
      rw [List.length_take, List.length_nil] at this
      omega), if_neg h0]
theorem text_len {s : CS} (h : s.Ok) : ∀ k, k ≤ s.l.length → (joinB (s.parts.take k) [32]).length ≤ 50 * k := by
  intro k
  induction k with
  | zero => intro _; simp [joinB, Lib.join_nil]
  | succ k ih =>
    intro hk
    rw [text_snoc s k (by omega), List.length_append]
    have h1 := ih (by omega)
    have h2 := parts_len h (pieceB (prAt s.l k)) (by unfold CS.parts; exact List.mem_map.2 ⟨prAt s.l k, by unfold prAt; exact getD_mem (by omega), rfl⟩)
    split
    · simp only [List.length_nil]; omega
    · rw [List.length_append, List.length_singleton]; omega
def ThreeC (q g i : Nat) (v : Value) (a b : Int) (w : World) : Prop := w.cell? ⟨q, 0, none⟩ = some v ∧ w.cell? ⟨g, i, none⟩ = some (.int .i64 a) ∧ w.cell? ⟨g, i + 1, none⟩ = some (.int .i64 b)
theorem ThreeC.keep {q g i : Nat} {v : Value} {a b : Int} {w w' : World} (h : ThreeC q g i v a b w) (hk : Keep (fun _ => False) w w') : ThreeC q g i v a b w' :=
  ⟨cell_kept hk h.1 id, cell_kept hk h.2.1 id, cell_kept hk h.2.2 id⟩

set_option maxHeartbeats 4000000 in
set_option maxRecDepth 100000 in
theorem rtext {n : Nat} {w : World} {q : Nat} {v : Value} {s : CS} (h : RSite n w q v s) :
    Calls Tryd.prog 34 #[.pointer (some ⟨q, 0, none⟩)] w fun e w' => e = .returned (.string (sb s.text)) ∧ Keep (fun _ => False) w w' := by
  obtain ⟨A, c, hv, c0, c1, c2, c3, fz, hp⟩ := h.cells
  have hl := h.ok.len
  have hql := h.lt
  cases hf : s.full with
  | true =>
    rw [hf] at c1
    have HE := Lib.hid (show s.text = [102, 117, 108, 108] by unfold CS.text; rw [if_pos hf])
    clear h hf hp fz hv
    go_enter Tryd.func34, Tryd.ntmps34
    go_wp2_with fail
    go_ret
    exact ⟨by rw [HE.out]; rfl, Keep.refl _ _⟩
  | false =>
    rw [hf] at c1
    have HE := Lib.hid (show s.text = joinB s.parts [32] by unfold CS.text; rw [hf]; simp)
    have HP := Lib.hid hp
    obtain ⟨m, hm⟩ : ∃ m, s.l.length = m := ⟨_, rfl⟩
    have HM := Lib.hid hm
    rw [hm] at c0 hl
    have HC := Lib.hid c0
    have HOK := Lib.hid h.ok
    clear h hm c2 c3 fz hf hv hp c0
    go_enter Tryd.func34, Tryd.ntmps34
    go_wp2_with fail
    clear c1
    go_loopw [3, 4] (fun t i wr => ∃ (j : Nat) (T : Bytes), j ≤ m ∧ i = .int .i64 (j : Int) ∧ t = .string (sb T) ∧ Hid (T = joinB (s.parts.take j) [32]) ∧ Hid (Keep (fun _ => False) w wr)) (fun _ i _ => m + 1 - (intOf i).toNat)
    case atStart => exact ⟨0, [], by omega, rfl, rfl, Lib.hid (by simp [joinB, Lib.join_nil]), Lib.hid (Keep.refl _ _)⟩
    case round =>
      obtain ⟨j, T, hj, rfl, rfl, HT, HB⟩ := hrel
      obtain ⟨wo, rfl⟩ : ∃ wo : World, wo = wr := ⟨_, rfl⟩
      have c0 : wo.cell? ⟨q, 0, none⟩ = some (.slice A m c) := cell_kept HB.out HC.out id
      by_cases hlt : j < m
      · obtain ⟨g, rfl, r1, r2, q3, q4, q5⟩ := HP.out j (by rw [HM.out]; omega)
        have q1 : wo.cell? ⟨g, j * 2, none⟩ = _ := cell_kept HB.out r1 id
        have q2 : wo.cell? ⟨g, j * 2 + 1, none⟩ = _ := cell_kept HB.out r2 id
        have hb : decide (j < m) = true := by simpa using hlt
        have hi1 : (0 : Int) ≤ (j : Int) := by omega
        have hi2 : (j : Int) < (m : Int) := by omega
        have hsn := text_snoc s j (by rw [HM.out]; omega)
        rw [← HT.out] at hsn
        have hnm := HOK.out.nums (prAt s.l j) (by unfold prAt; exact getD_mem (by rw [HM.out]; exact hlt))
        have hTl := text_len HOK.out j (by rw [HM.out]; omega)
        rw [← HT.out] at hTl
        have hpe : pieceB (prAt s.l j) = Lib.itoa (prAt s.l j).1 ++ [58] ++ Lib.itoa (prAt s.l j).2 := rfl
        rw [hpe] at hsn
        obtain ⟨a, ha⟩ : ∃ a, (prAt s.l j).1 = a := ⟨_, rfl⟩
        obtain ⟨b, hb2⟩ : ∃ b, (prAt s.l j).2 = b := ⟨_, rfl⟩
        rw [ha] at hsn q1 hnm
        rw [hb2] at hsn q2 hnm
        obtain ⟨an, rfl⟩ := Int.eq_ofNat_of_zero_le hnm.1
        obtain ⟨bn, rfl⟩ := Int.eq_ofNat_of_zero_le hnm.2.2.1
        have la := Lib.itoa_length_le (an : Int) (by omega) (by omega)
        have lb := Lib.itoa_length_le (bn : Int) (by omega) (by omega)
        have hda := decimal_any an (by omega)
        have hdb := decimal_any bn (by omega)
        obtain ⟨sa, hsa⟩ : ∃ sa, Lib.itoa (an : Int) = sa := ⟨_, rfl⟩
        obtain ⟨sc, hsc⟩ : ∃ sc, Lib.itoa (bn : Int) = sc := ⟨_, rfl⟩
        rw [hsa] at hsn la hda
        rw [hsc] at hsn lb hdb
        obtain ⟨T0, hT0⟩ : ∃ T0, (if j = 0 then ([] : Bytes) else T ++ [32]) = T0 := ⟨_, rfl⟩
        rw [hT0] at hsn
        have hT0l : T0.length ≤ 300 := by
          rw [← hT0]
          split
          · simp
          · rw [List.length_append, List.length_singleton]; omega
        obtain ⟨xa, hxa⟩ : ∃ xa, sb sa = xa := ⟨_, rfl⟩
        obtain ⟨xc, hxc⟩ : ∃ xc, sb sc = xc := ⟨_, rfl⟩
        obtain ⟨x0, hx0⟩ : ∃ x0, sb T0 = x0 := ⟨_, rfl⟩
        obtain ⟨x1, hx1⟩ : ∃ x1, sb (T0 ++ sa) = x1 := ⟨_, rfl⟩
        obtain ⟨x2, hx2⟩ : ∃ x2, sb (T0 ++ sa ++ [58]) = x2 := ⟨_, rfl⟩
        have hadd1 : ∀ W : World, (Op.stringOp .add x0 xa).run Tryd.prog W = .ok (.string x1) W := by
          intro W
          rw [← hx0, ← hxa, ← hx1, add_bytes _ _ _ (by omega)]
        have hadd2 : ∀ W : World, (Op.stringOp .add x1 ⟨#[58]⟩).run Tryd.prog W = .ok (.string x2) W := by
          intro W
          rw [← hx1, ← hx2, add_lit, add_bytes _ _ _ (by simp only [List.length_append, List.length_singleton]; omega)]
        have hadd3 : ∀ W : World, (Op.stringOp .add x2 xc).run Tryd.prog W = .ok (.string (sb (joinB (s.parts.take (j + 1)) [32]))) W := by
          intro W
          rw [← hx2, ← hxc, add_bytes _ _ _ (by simp only [List.length_append, List.length_singleton]; omega), hsn]
          congr 3
          simp
        rw [hxa] at hda
        rw [hxc] at hdb
        obtain ⟨T1, hT1⟩ : ∃ T1, joinB (s.parts.take (j + 1)) [32] = T1 := ⟨_, rfl⟩
        rw [hT1] at hadd3
        have HT1 := Lib.hid hT1
        have DA := fun W => Lib.hid (hda W)
        have DB := fun W => Lib.hid (hdb W)
        have KC := Lib.hid (show ThreeC q g (j * 2) (.slice (some ⟨g, 0, none⟩) m c) (an : Int) (bn : Int) wo.drew from ⟨c0, q1, q2⟩)
        have K := Lib.hid (show Keep (fun _ => False) wo wo.drew from keep_draw _ _)
        have fin : ∀ (W : World), Keep (fun _ => False) wo W → (∃ (k : Nat) (T' : Bytes), k ≤ m ∧ Value.int .i64 ((j : Int) + 1) = .int .i64 (k : Int) ∧ Value.string (sb T1) = .string (sb T') ∧ Hid (T' = joinB (s.parts.take k) [32]) ∧ Hid (Keep (fun _ => False) w W)) :=
          fun W hW => ⟨j + 1, T1, by omega, by go_num, rfl, Lib.hid HT1.out.symm, Lib.hid (Keep.trans HB.out hW)⟩
        have FIN := Lib.hid fin
        have HX0 := Lib.hid hx0
        have HTT := Lib.hid hT0
        have hTl2 : T.length ≤ 200 := by omega
        clear fin hT1 hx0 hx1 hx2 hxa hxc hT0 hsa hsc hda hdb hsn hpe ha hb2 hTl r1 r2 q3 q4 la lb hT0l
        by_cases hj0 : j = 0
        · have e0 : x0 = sb T := by
            have hT : T = [] := by rw [HT.out, hj0]; simp [joinB, Lib.join_nil]
            rw [← HX0.out, ← HTT.out, if_pos hj0, hT]
          subst e0
          have hbj : decide (0 < j) = false := by simp; omega
          have hbj2 : decide ((0 : Int) < (j : Int)) = false := by simp; omega
          clear hj0
          go_wp2_with fail
          go_region_held3 (fun w' => w'.cell? ⟨q, 0, none⟩ = some (.slice (some ⟨g, 0, none⟩) m c) ∧ w'.cell? ⟨g, j * 2, none⟩ = some (.int .i64 (an : Int)) ∧ w'.cell? ⟨g, j * 2 + 1, none⟩ = some (.int .i64 (bn : Int))) (first | exact KC.out)
            (first
              | (go_at_call_of 41 (Value.int .i64 (an : Int)); refine (DA _).out.mono ?_; rintro e wn ⟨rfl, hkn⟩; replace KC := Lib.hid (KC.out.keep hkn); replace K := Lib.hid (Keep.trans K.out hkn); clear hkn)
              | (go_at_call_of 41 (Value.int .i64 (bn : Int)); refine (DB _).out.mono ?_; rintro e wn ⟨rfl, hkn⟩; replace KC := Lib.hid (KC.out.keep hkn); replace K := Lib.hid (Keep.trans K.out hkn); clear hkn))
          all_goals go_wp2_with fail
          all_goals exact ⟨FIN.out _ K.out, by simp [intOf]; omega⟩
        · have haddT : ∀ W : World, (Op.stringOp .add (sb T) ⟨#[32]⟩).run Tryd.prog W = .ok (.string x0) W := by
            intro W
            rw [show (⟨#[32]⟩ : ByteArray) = sb [32] from rfl, add_bytes _ _ _ (by simp only [List.length_singleton]; omega), ← HX0.out, ← HTT.out, if_neg hj0]
          have hbj : decide (0 < j) = true := by simp; omega
          have hbj2 : decide ((0 : Int) < (j : Int)) = true := by simp; omega
          have hj1 : 0 < j := by omega
          clear hj0
          go_wp2_with fail
          go_region_held3 (fun w' => w'.cell? ⟨q, 0, none⟩ = some (.slice (some ⟨g, 0, none⟩) m c) ∧ w'.cell? ⟨g, j * 2, none⟩ = some (.int .i64 (an : Int)) ∧ w'.cell? ⟨g, j * 2 + 1, none⟩ = some (.int .i64 (bn : Int))) (first | exact KC.out)
            (first
              | (go_at_call_of 41 (Value.int .i64 (an : Int)); refine (DA _).out.mono ?_; rintro e wn ⟨rfl, hkn⟩; replace KC := Lib.hid (KC.out.keep hkn); replace K := Lib.hid (Keep.trans K.out hkn); clear hkn)
              | (go_at_call_of 41 (Value.int .i64 (bn : Int)); refine (DB _).out.mono ?_; rintro e wn ⟨rfl, hkn⟩; replace KC := Lib.hid (KC.out.keep hkn); replace K := Lib.hid (Keep.trans K.out hkn); clear hkn))
          all_goals go_wp2_with fail
          all_goals exact ⟨FIN.out _ K.out, by simp [intOf]; omega⟩
      · obtain rfl : j = m := by omega
        have hb : decide (j < j) = false := by simp
        have hT : T = joinB s.parts [32] := by rw [HT.out, List.take_of_length_le (by unfold CS.parts; rw [List.length_map, HM.out]; exact Nat.le_refl _)]
        have HTE := Lib.hid hT
        clear hT
        go_wp2_with fail
        go_ret
        exact ⟨by rw [HE.out, ← HTE.out]; rfl, HB.out⟩
end Go.Proofs.YtdfmmgepapiamaaDoor
