/- The reference model of a site in memory: New, State, Find, Learn, Forget, Shapes. -/
import Derived.Test.YtdfmmgepapiamaaDoorS5
import Derived.Laws.OwnMore
import Derived.Deep.AppendLies
namespace Go.Proofs.YtdfmmgepapiamaaDoor
open Go.RowKit
set_option linter.unusedVariables false

def prc : List (Int × Int) → List Value
  | [] => []
  | p :: l => .int .i64 p.1 :: .int .i64 p.2 :: prc l
theorem prc_length : ∀ l : List (Int × Int), (prc l).length = l.length * 2
  | [] => rfl
  | p :: l => by simp only [prc, List.length_cons, prc_length l]; omega
theorem prc_append : ∀ (l : List (Int × Int)) (p : Int × Int), prc (l ++ [p]) = prc l ++ [.int .i64 p.1, .int .i64 p.2]
  | [], _ => rfl
  | q :: l, p => by simp only [List.cons_append, prc, prc_append l p]
theorem prc_at : ∀ (l : List (Int × Int)) (i : Nat), i < l.length → (prc l)[i * 2]? = some (.int .i64 (prAt l i).1) ∧ (prc l)[i * 2 + 1]? = some (.int .i64 (prAt l i).2)
  | [], _, h => by simp at h
  | p :: l, 0, _ => ⟨rfl, rfl⟩
  | p :: l, i + 1, hi => by
    have := prc_at l i (by simpa using hi)
    rw [show (i + 1) * 2 = i * 2 + 1 + 1 by omega]
    simpa [prc, prAt] using this
theorem prc_set : ∀ (l : List (Int × Int)) (i : Nat) (x y : Int), i < l.length → (prAt l i).1 = x → (prc l).set (i * 2 + 1) (.int .i64 y) = prc (l.set i (x, y))
  | [], _, _, _, h, _ => by simp at h
  | p :: l, 0, x, y, _, hx => by
    have : p.1 = x := hx
    subst this
    rfl
  | p :: l, i + 1, x, y, hi, hx => by
    rw [show (i + 1) * 2 + 1 = i * 2 + 1 + 1 + 1 by omega]
    simp only [prc, List.set_cons_succ]
    rw [prc_set l i x y (by simpa using hi) hx]
theorem prc_one : ∀ l : List (Int × Int), ∀ u ∈ prc l, u.oneCell' = true
  | [], u, h => by simp [prc] at h
  | p :: l, u, h => by
    simp only [prc, List.mem_cons] at h
    rcases h with rfl | rfl | h
    · rfl
    · rfl
    · exact prc_one l u h

structure RSite (n : Nat) (w : World) (q : Nat) (v : Value) (s : CS) : Prop where
  blk : w.heap[q]? = some (.cells #[v, .bool s.full, .int .i64 s.hits, .int .i64 s.misses] 65 (0, 0))
  own : w.ownsRow n 76 2 v s.l.length (prc s.l)
  base : n ≤ q
  ok : s.Ok
theorem RSite.lt {n : Nat} {w : World} {q : Nat} {v : Value} {s : CS} (h : RSite n w q v s) : q < w.heap.size := blk_lt h.blk
theorem RSite.ne {n : Nat} {w : World} {q : Nat} {v : Value} {s : CS} (h : RSite n w q v s) : ∀ k, v.ownBlock = some k → k ≠ q := fun k hk => blk_own_ne h.blk h.own hk (by decide)
theorem RSite.keep {n : Nat} {w w' : World} {q : Nat} {v : Value} {s : CS} {F : Nat → Prop} (h : RSite n w q v s) (hk : Keep F w w') (hF : ¬ F q) (hG : ∀ k, v.ownBlock = some k → ¬ F k) : RSite n w' q v s :=
  ⟨(hk.block q h.lt hF).trans h.blk, hk.own h.own hG, h.base, h.ok⟩
theorem RSite.since {n m : Nat} {w w' : World} {q : Nat} {v : Value} {s : CS} (h : RSite n w q v s) (hk : Since m w w') (hm : w.heap.size ≤ m) : RSite n w' q v s :=
  h.keep hk (by have := h.lt; omega) (fun k e => by have := own_lt h.own k e; omega)
theorem RSite.cells {n : Nat} {w : World} {q : Nat} {v : Value} {s : CS} (h : RSite n w q v s) : ∃ A c, v = .slice A s.l.length c ∧ w.cell? ⟨q, 0, none⟩ = some (.slice A s.l.length c) ∧
    w.cell? ⟨q, 1, none⟩ = some (.bool s.full) ∧ w.cell? ⟨q, 2, none⟩ = some (.int .i64 s.hits) ∧ w.cell? ⟨q, 3, none⟩ = some (.int .i64 s.misses) ∧ (∀ i, w.frozen? ⟨q, i, none⟩ = false) ∧
    ∀ j, j < s.l.length → ∃ g, A = some ⟨g, 0, none⟩ ∧ w.cell? ⟨g, j * 2, none⟩ = some (.int .i64 (prAt s.l j).1) ∧ w.cell? ⟨g, j * 2 + 1, none⟩ = some (.int .i64 (prAt s.l j).2) ∧ w.frozen? ⟨g, j * 2 + 1, none⟩ = false ∧ g ≠ q ∧ g < w.heap.size := by
  obtain ⟨A, c, rfl⟩ := own_slice h.own
  have hb := h.blk
  refine ⟨A, c, rfl, ?_, ?_, ?_, ?_, fun i => blk_free hb i, fun j hj => ?_⟩
  · rw [blk_cell hb]; rfl
  · rw [blk_cell hb]; rfl
  · rw [blk_cell hb]; rfl
  · rw [blk_cell hb]; rfl
  · have ho := h.own
    obtain ⟨g, cap, e, _, _⟩ := ho.form (by omega)
    injection e with e1 _ e3
    subst e1 e3
    obtain ⟨a, b⟩ := prc_at s.l j hj
    exact ⟨g, rfl, (ho.cellAt (j * 2) (by omega)).trans a, (ho.cellAt (j * 2 + 1) (by omega)).trans b, ho.frozenAt _, h.ne g rfl, own_lt ho g rfl⟩

theorem new_ref (w : World) : Calls Tryd.prog 19 #[] w fun e w' => e = .returned (.pointer (some ⟨w.heap.size, 0, none⟩)) ∧ RSite w.heap.size w' w.heap.size (.slice none 0 0) CS.new ∧ Since w.heap.size w w' := by
  go_enter Tryd.func19, Tryd.ntmps19
  go_wp2_with fail
  go_ret
  exact ⟨rfl, ⟨heap_alloc_new _ _, World.ownsRow_nil _ _ _ _, Nat.le_refl _, ok_new⟩, Since.of ((Keep.refl _ w).alloc' _)⟩
theorem ref_state {n : Nat} {w : World} {q : Nat} {v : Value} {s : CS} (h : RSite n w q v s) :
    Calls Tryd.prog 32 #[.pointer (some ⟨q, 0, none⟩)] w fun e w' => e = .returned (.int .i64 s.state) ∧ w = w' := by
  obtain ⟨A, c, _, c0, c1, _, _, _, _⟩ := h.cells
  have hl := h.ok.len
  cases hf : s.full with
  | true =>
    rw [hf] at c1
    have HE := Lib.hid (show s.state = 3 by unfold CS.state; rw [if_pos hf])
    clear h hf
    go_enter Tryd.func32, Tryd.ntmps32
    go_wp2_with fail
    go_ret
    exact ⟨by rw [HE.out]; rfl, rfl⟩
  | false =>
    rw [hf] at c1
    have hE : s.state = ((min s.l.length 2 : Nat) : Int) := by unfold CS.state; rw [hf]; simp only [Bool.false_eq_true, if_false]; split <;> omega
    have HE := Lib.hid hE
    have hmin : (min (s.l.length : Int) 2).toNat = min s.l.length 2 := by omega
    obtain ⟨m, hm⟩ : ∃ m, s.l.length = m := ⟨_, rfl⟩
    rw [hm] at c0 hmin HE hl
    have hrun : ∀ W, (Builtin.min_ #[3, 3] 3 #[.int .i64 (m : Int), .int .i64 2]).run Tryd.prog W = .ok (.int .i64 ((min m 2 : Nat) : Int)) W := by
      intro W
      rw [run_min_int2]
      by_cases h2 : m ≤ 2
      · have e : min m 2 = m := by omega
        rw [e]
        first | rw [if_pos (by omega)] | (congr 2; omega)
      · have e : min m 2 = 2 := by omega
        rw [e]
        first | rw [if_neg (by omega)]; rfl | (congr 2; omega)
    obtain ⟨mm, hmm⟩ : ∃ mm, min m 2 = mm := ⟨_, rfl⟩
    rw [hmm] at hrun HE
    clear h hf hE hm hmm hmin
    go_enter Tryd.func32, Tryd.ntmps32
    go_wp2_with fail
    go_ret
    exact ⟨by rw [HE.out]; rfl, rfl⟩

/-! ### Find -/
set_option maxHeartbeats 2000000 in
theorem rfind {n : Nat} {w : World} {q : Nat} {v : Value} {s : CS} (h : RSite n w q v s) (x : Int) (hf : s.few 999999) :
    Calls Tryd.prog 31 #[.pointer (some ⟨q, 0, none⟩), .int .i64 x] w fun e w' => e = .returned (.tuple #[.int .i64 (s.find x).1.1, .bool (s.find x).1.2]) ∧ RSite n w' q v (s.find x).2 ∧ Keep (fun k => k = q) w w' := by
  obtain ⟨A, c, hv, c0, c1, c2, c3, fz, hp⟩ := h.cells
  have hh := h.ok.hits
  have hm := h.ok.misses
  have hl := h.ok.len
  have h6 := hf.1
  have h7 := hf.2
  have HF := Lib.hid (find_ok h.ok x hf)
  have H := Lib.hid h
  have HP := Lib.hid hp
  have f2 := fz 2
  have f3 := fz 3
  have hend : ∀ (j : Nat) (u : Int) (s' : CS), j < 4 → s'.l = s.l → s'.full = s.full → ((j = 2 ∧ u = s'.hits ∧ s'.misses = s.misses) ∨ (j = 3 ∧ u = s'.misses ∧ s'.hits = s.hits)) → s'.Ok → RSite n (w.setCell ⟨q, j, none⟩ (.int .i64 u)) q v s' := by
    intro j u s' hj e1 e2 e3 ok
    have hb := blk_set h.blk j (.int .i64 u)
    refine ⟨?_, by rw [e1]; exact (keep_set (Keep.refl (fun k => k = q) w) j (.int .i64 u)).own h.own (fun k hk => h.ne k hk), h.base, ok⟩
    rcases e3 with ⟨rfl, rfl, e4⟩ | ⟨rfl, rfl, e4⟩
    · rw [hb, ← e4, ← e2]; rfl
    · rw [hb, ← e4, ← e2]; rfl
  have HE := Lib.hid hend
  rcases idx_cases s.l x with ⟨k, e, hk⟩ | ⟨e, ha⟩
  · have hEq : s.find x = (((prAt s.l k).2, true), { s with hits := s.hits + 1 }) := by unfold CS.find; rw [e]
    rw [hEq] at HF ⊢
    obtain ⟨b, hb2⟩ : ∃ b, (prAt s.l k).2 = b := ⟨_, rfl⟩
    have HB := Lib.hid hb2
    rw [hb2]
    have hkl := hk.1
    have HK := Lib.hid hk
    clear h hf hEq hp fz hend e hk hv hb2
    obtain ⟨m, hm'⟩ : ∃ m, s.l.length = m := ⟨_, rfl⟩
    have HM := Lib.hid hm'
    rw [hm'] at c0 hl hkl
    clear hm'
    go_enter Tryd.func31, Tryd.ntmps31
    go_wp2_with fail
    go_loop [6] (fun i => ∃ j : Nat, j ≤ k ∧ i = .int .i64 (j : Int)) (fun i => k + 1 - (intOf i).toNat)
    case atStart => exact ⟨0, Nat.zero_le _, rfl⟩
    case round =>
      obtain ⟨j, hj, rfl⟩ := hrel
      obtain ⟨g, rfl, q1, q2, q3, q4, q5⟩ := HP.out j (by rw [HM.out]; omega)
      have hltn : decide (j < m) = true := by simp; omega
      have hjm : j < m := by omega
      by_cases hjk : j = k
      · subst hjk
        rw [HK.out.2.1] at q1
        have hb : (x == x) = true := by simp
        have hn1 : ¬ g = q := q4
        rw [HB.out] at q2
        clear q4
        go_wp2_with fail
        go_ret2
        exact ⟨rfl, HE.out 2 _ _ (by omega) rfl rfl (.inl ⟨rfl, rfl, rfl⟩) HF.out, keep_set (Keep.refl _ w) _ _⟩
      · have hne := HK.out.2.2 j (by omega)
        obtain ⟨a, ha⟩ : ∃ a, (prAt s.l j).1 = a := ⟨_, rfl⟩
        rw [ha] at q1 hne
        have hb : (a == x) = false := by simpa using hne
        clear ha hne q2 q3 q4
        go_wp2_with fail
        exact ⟨⟨j + 1, by omega, by go_num⟩, by simp [intOf]; omega⟩
  · have hEq : s.find x = ((0, false), { s with misses := s.misses + 1 }) := by unfold CS.find; rw [e]
    rw [hEq] at HF ⊢
    have HK := Lib.hid ha
    clear h hf hEq hp fz hend e ha hv
    obtain ⟨m, hm'⟩ : ∃ m, s.l.length = m := ⟨_, rfl⟩
    have HM := Lib.hid hm'
    rw [hm'] at c0 hl
    clear hm'
    go_enter Tryd.func31, Tryd.ntmps31
    go_wp2_with fail
    go_loop [6] (fun i => ∃ j : Nat, j ≤ m ∧ i = .int .i64 (j : Int)) (fun i => m + 1 - (intOf i).toNat)
    case atStart => exact ⟨0, Nat.zero_le _, rfl⟩
    case round =>
      obtain ⟨j, hj, rfl⟩ := hrel
      by_cases hjk : j = m
      · subst hjk
        have hltn : decide (j < j) = false := by simp
        go_wp2_with fail
        go_ret2
        exact ⟨rfl, HE.out 3 _ _ (by omega) rfl rfl (.inr ⟨rfl, rfl, rfl⟩) HF.out, keep_set (Keep.refl _ w) _ _⟩
      · obtain ⟨g, rfl, q1, q2, q3, q4, q5⟩ := HP.out j (by rw [HM.out]; omega)
        have hltn : decide (j < m) = true := by simp; omega
        have hjm : j < m := by omega
        have hne := HK.out j (by rw [HM.out]; omega)
        obtain ⟨a, ha⟩ : ∃ a, (prAt s.l j).1 = a := ⟨_, rfl⟩
        rw [ha] at q1 hne
        have hb : (a == x) = false := by simpa using hne
        clear ha hne q2 q3 q4
        go_wp2_with fail
        exact ⟨⟨j + 1, by omega, by go_num⟩, by simp [intOf]; omega⟩
end Go.Proofs.YtdfmmgepapiamaaDoor
