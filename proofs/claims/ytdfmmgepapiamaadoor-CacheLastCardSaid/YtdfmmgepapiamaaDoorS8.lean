/- The reference model of a site in memory: Forget, Shapes. -/
import Derived.Test.YtdfmmgepapiamaaDoorS7
namespace Go.Proofs.YtdfmmgepapiamaaDoor
open Go.RowKit
set_option linter.unusedVariables false

theorem filter_snoc (l : List (Int × Int)) (x : Int) (j : Nat) (hj : j < l.length) :
    (l.take (j + 1)).filter (fun p => p.1 != x) = (l.take j).filter (fun p => p.1 != x) ++ (if ((prAt l j).1 != x) = true then [prAt l j] else []) := by
  rw [List.take_succ_eq_append_getElem hj, List.filter_append, pr_getElem hj]
  simp only [List.filter_cons, List.filter_nil]
theorem forget_eq {s : CS} (h : s.Ok) (x : Int) : s.forget x = (decide ((s.l.filter (fun p => p.1 != x)).length < s.l.length), { s with l := s.l.filter (fun p => p.1 != x) }) := by
  unfold CS.forget
  rcases idx_cases s.l x with ⟨k, e, hk⟩ | ⟨e, ha⟩
  · rw [e, erase_filter h.nodup hk]
    have : (s.l.eraseIdx k).length < s.l.length := by rw [List.length_eraseIdx_of_lt hk.1]; have := hk.1; omega
    simp [this]
  · rw [e, absent_filter ha]
    simp
set_option maxHeartbeats 4000000 in
theorem rforget {n : Nat} {w : World} {q : Nat} {v : Value} {s : CS} (h : RSite n w q v s) (hn : n ≤ w.heap.size) (x : Int) :
    Calls Tryd.prog 30 #[.pointer (some ⟨q, 0, none⟩), .int .i64 x] w fun e w' => e = .returned (.bool (s.forget x).1) ∧ (∃ v', RSite n w' q v' (s.forget x).2) ∧ Keep (fun k => k = q) w w' := by
  obtain ⟨A, c, hv, c0, c1, c2, c3, fz, hp⟩ := h.cells
  have hl := h.ok.len
  have HL := Lib.hid (forget_ok h.ok x)
  have H := Lib.hid h
  have HP := Lib.hid hp
  have f0 := fz 0
  rw [forget_eq h.ok x] at HL ⊢
  obtain ⟨m, hm'⟩ : ∃ m, s.l.length = m := ⟨_, rfl⟩
  have HM := Lib.hid hm'
  rw [hm'] at c0 hl
  have hql := h.lt
  obtain ⟨i0, hi, hz0, hz1, hz2⟩ := info_parts Tryd.pair
  have HI := Lib.hid hi
  have HZ0 := Lib.hid hz0
  have HZ1 := Lib.hid hz1
  have HZ2 := Lib.hid hz2
  have HC := Lib.hid c0
  clear h hp fz hv c1 c2 c3 hi hz0 hz1 hz2 c0
  simp only [hm']
  obtain ⟨b, hbq⟩ : ∃ b, decide ((s.l.filter (fun p => p.1 != x)).length < m) = b := ⟨_, rfl⟩
  rw [hbq]
  have HBQ := Lib.hid hbq
  obtain ⟨s', hs'⟩ : ∃ s' : CS, { s with l := s.l.filter (fun p => p.1 != x) } = s' := ⟨_, rfl⟩
  rw [hs'] at HL ⊢
  have HS' := Lib.hid hs'
  clear hm' hbq hs'
  go_enter Tryd.func30, Tryd.ntmps30
  go_wp2_with fail
  go_loopw [5, 6] (fun u i wr => ∃ j : Nat, j ≤ m ∧ i = .int .i64 (j : Int) ∧ wr.ownsRow w.heap.size 76 2 u ((s.l.take j).filter (fun p => p.1 != x)).length (prc ((s.l.take j).filter (fun p => p.1 != x))) ∧ Since w.heap.size w wr) (fun _ i _ => m + 1 - (intOf i).toNat)
  case atStart => exact ⟨0, Nat.zero_le _, rfl, by simpa [prc] using World.ownsRow_nil _ _ _ _, Keep.refl _ _⟩
  case round =>
    obtain ⟨j, hj, rfl, hown, hbel⟩ := hrel
    obtain ⟨wo, rfl⟩ : ∃ wo : World, wo = wr := ⟨_, rfl⟩
    have HB := Lib.hid hbel; clear hbel
    have c0 : wo.cell? ⟨q, 0, none⟩ = some (.slice A m c) := cell_kept HB.out HC.out (by simp only; omega)
    have hfl : ((s.l.take j).filter (fun p => p.1 != x)).length ≤ j := Nat.le_trans (List.length_filter_le _ _) (List.length_take_le _ _)
    obtain ⟨fl, hflq⟩ : ∃ fl, (s.l.take j).filter (fun p => p.1 != x) = fl := ⟨_, rfl⟩
    have HF := Lib.hid hflq
    rw [hflq] at hown hfl
    clear hflq
    by_cases hjk : j = m
    · subst hjk
      have hfin : fl = s.l.filter (fun p => p.1 != x) := by rw [← HF.out, List.take_of_length_le (by rw [HM.out]; exact Nat.le_refl _)]
      have hS := HS'.out
      have hbq := HBQ.out
      rw [← hfin] at hS hbq
      obtain ⟨fn, hfn⟩ : ∃ fn, fl.length = fn := ⟨_, rfl⟩
      have HFN := Lib.hid hfn
      rw [hfn] at hfl hbq hown
      obtain ⟨A2, c2, rfl⟩ := own_slice hown
      have g0 : wo.frozen? ⟨q, 0, none⟩ = false := (keep_frozen HB.out hql (by simp only; omega)).trans f0
      have hltn : decide (j < j) = false := by simp
      have hdec : ∀ b, decide (fn < j) = b → decide ((fn : Int) < (j : Int)) = b := fun b hb => by rw [← hb]; exact decide_eq_decide.2 (by omega)
      have hbi := hdec b hbq
      have HS := Lib.hid hS
      have HW := Lib.hid (show wo.ownsRow w.heap.size 76 2 (.slice A2 fn c2) fn (prc fl) from hown)
      clear hown hfin hfn hdec f0 hS
      go_wp2_with fail
      go_ret
      have hb1 : wo.heap[q]? = _ := (HB.out.block q hql (by omega)).trans H.out.blk
      have hb2 := blk_set hb1 0 (.slice A2 fn c2)
      have hkq : Keep (fun k => k = q) wo (wo.setCell ⟨q, 0, none⟩ (.slice A2 fn c2)) := keep_set (Keep.refl _ wo) _ _
      refine ⟨rfl, ⟨.slice A2 fn c2, ⟨?_, ?_, H.out.base, HL.out⟩⟩, ?_⟩
      · rw [hb2, ← HS.out]; rfl
      · have := hkq.own HW.out (fun b hb => by have := own_low HW.out hb; omega)
        rw [← HS.out]
        simp only [HFN.out]
        exact own_base this n (fun k hk => Nat.le_trans hn (own_low HW.out hk))
      · exact Keep.then (F := fun k => k = q) (F' := fun k => k = q) (Keep.then (F' := fun k => w.heap.size ≤ k) (Keep.refl _ w) HB.out (fun i hi => .inr hi)) hkq (fun i hi => .inl hi)
    · obtain ⟨g, rfl, r1, r2, q3, q4, q5⟩ := HP.out j (by rw [HM.out]; omega)
      have hltn : decide (j < m) = true := by simp; omega
      have hjm : j < m := by omega
      have q1 : wo.cell? ⟨g, j * 2, none⟩ = _ := cell_kept HB.out r1 (by simp only; omega)
      have q2 : wo.cell? ⟨g, j * 2 + 1, none⟩ = _ := cell_kept HB.out r2 (by simp only; omega)
      have hsn := filter_snoc s.l x j (by rw [HM.out]; omega)
      rw [HF.out] at hsn
      obtain ⟨⟨a, b⟩, hab⟩ : ∃ ab, prAt s.l j = ab := ⟨_, rfl⟩
      rw [hab] at hsn q1 q2
      simp only at hsn q1 q2
      by_cases hax : a = x
      · have hb1 : (a != x) = false := by simpa using hax
        rw [hb1] at hsn
        simp only [Bool.false_eq_true, if_false, List.append_nil] at hsn
        have HS := Lib.hid hsn
        have HW := Lib.hid hown
        clear hsn hab hax r1 r2 hown q2
        go_wp2_with fail
        exact ⟨⟨j + 1, by omega, by go_num, by rw [HS.out]; exact HW.out, HB.out⟩, by simp [intOf]; omega⟩
      · have hb1 : (a != x) = true := by simpa using hax
        rw [hb1] at hsn
        simp only [if_true] at hsn
        have HS := Lib.hid hsn
        have HO := Lib.hid hown
        obtain ⟨fn, hfn⟩ : ∃ fn, fl.length = fn := ⟨_, rfl⟩
        have HFN := Lib.hid hfn
        rw [hfn] at HO hfl
        clear hsn hab hax r1 r2 hown hfn
        go_wp2_with (at_builtin; refine wpList_append_lies _ rfl _ _ _ rfl w.heap.size 76 i0 _ 2 16 Tryd.underlying63 HI.out HZ0.out HZ1.out HZ2.out rfl (by decide) _ fn (prc fl) rfl (HO.out.alloc _) ⟨wo.heap.size, 0, none⟩ 1 1 [.int .i64 a, .int .i64 b] rfl rfl (by exact World.news_of_block (cs := #[.int .i64 a, .int .i64 b]) (t := 76) (fr := (0, 0)) (by exact heap_alloc_new _ _)) (by simp [Value.oneCell']) (by omega) (by unfold maxLen; omega) (by omega) (by have := HB.out.size; simp; omega) _ rfl ?_; intro g2 cap w1 hown hgrow hat hlt; have HOW := Lib.hid hown; have HB2 := Lib.hid (show Since w.heap.size w w1 from (HB.out.grown (grown_alloc hgrow) (fun k e => .inl (own_low HO.out e)))); clear hown hgrow hat q1 q2 c0)
        refine ⟨⟨j + 1, by omega, by go_num, ?_, HB2.out⟩, by simp [intOf]; omega⟩
        rw [HS.out, prc_append, List.length_append, List.length_singleton, HFN.out]
        exact HOW.out

set_option maxHeartbeats 1000000 in
theorem rshapes {n : Nat} {w : World} {q : Nat} {v : Value} {s : CS} (h : RSite n w q v s) :
    Calls Tryd.prog 33 #[.pointer (some ⟨q, 0, none⟩)] w fun e w' => ∃ u, e = .returned u ∧ w'.ownsRow w.heap.size 3 1 u s.l.length (ints s.shapes) ∧ Since w.heap.size w w' := by
  obtain ⟨A, c, hv, c0, c1, c2, c3, fz, hp⟩ := h.cells
  have H := Lib.hid h
  have HP := Lib.hid hp
  have hl4 := h.ok.len
  have hql := h.lt
  obtain ⟨m, hm⟩ : ∃ m, s.l.length = m := ⟨_, rfl⟩
  have HM := Lib.hid hm
  rw [hm] at c0 hl4
  have HC := Lib.hid c0
  clear h hm c1 c2 c3 fz hp hv c0
  go_enter Tryd.func33, Tryd.ntmps33
  go_wp2_with fail
  go_loopw [3, 4] (fun v i wr => ∃ j : Nat, j ≤ m ∧ i = .int .i64 (j : Int) ∧ wr.ownsRow w.heap.size 3 1 v j (ints (s.shapes.take j)) ∧ Since w.heap.size w wr) (fun _ i _ => m - (intOf i).toNat)
  case atStart => exact ⟨0, by omega, rfl, by simpa [ints] using World.ownsRow_nil _ _ _ _, Keep.refl _ _⟩
  case round =>
    obtain ⟨j, hj, rfl, hown, hbel⟩ := hrel
    have HO := Lib.hid hown; clear hown
    have HB := Lib.hid hbel; clear hbel
    have hsz : w.heap.size ≤ wr.heap.size := HB.out.size
    obtain ⟨wo, rfl⟩ : ∃ wo : World, wo = wr := ⟨_, rfl⟩
    have c0 : wo.cell? ⟨q, 0, none⟩ = some (.slice A m c) := cell_kept HB.out HC.out (by simp only; omega)
    by_cases hlt : j < m
    · obtain ⟨g, rfl, r1, r2, q3, q4, q5⟩ := HP.out j (by rw [HM.out]; omega)
      have q1 : wo.cell? ⟨g, j * 2, none⟩ = _ := cell_kept HB.out r1 (by simp only; omega)
      have hb : decide (j < m) = true := by simpa using hlt
      obtain ⟨a, ha⟩ : ∃ a, (prAt s.l j).1 = a := ⟨_, rfl⟩
      have HA := Lib.hid ha
      rw [ha] at q1
      clear ha r1 r2 q3 q4
      go_wp2_with (at_builtin; refine wpList_append_src 37 3 _ 8 w.heap.size Tryd.ints _ _ rfl rfl _ j (ints (s.shapes.take j)) rfl (by exact HO.out.alloc _) _ 1 1 (ints [a]) rfl ?_ ?_ (ints_one _) ?_ (by decide) ?_ ?_)
      · intro h; cases h
      · exact cells_new _ _ _
      · omega
      · simp; omega
      · intro v' w' hown hg hnil hblk
        have hown' : w'.ownsRow w.heap.size 3 1 v' (j + 1) (ints (s.shapes.take (j + 1))) := by
          unfold CS.shapes
          rw [← shapes_snoc _ _ (by rw [HM.out]; exact hlt), HA.out, ints_append]
          exact hown
        have hbel' : Since w.heap.size w w' := (Keep.trans HB.out (Since.of ((Keep.refl _ wo).alloc' _))).grown hg (fun k e => .inl (own_low HO.out e))
        have HO' := Lib.hid hown'
        have HB' := Lib.hid hbel'
        clear hown hg hnil hblk hown' hbel' q1 c0
        go_wp2
        go_roundw
        case rel => exact ⟨j + 1, by omega, by go_num, HO'.out, HB'.out⟩
        case measure => simp [intOf]; omega
    · obtain rfl : j = m := by omega
      have hb : decide (j < j) = false := by simp
      have hown := HO.out
      rw [List.take_of_length_le (by unfold CS.shapes; rw [List.length_map, HM.out]; exact Nat.le_refl _)] at hown
      obtain ⟨A2, c2, rfl⟩ := own_slice hown
      have HW := Lib.hid hown; clear hown
      go_wp2_with fail
      go_ret
      exact ⟨_, rfl, by rw [HM.out]; exact HW.out, HB.out⟩
end Go.Proofs.YtdfmmgepapiamaaDoor
