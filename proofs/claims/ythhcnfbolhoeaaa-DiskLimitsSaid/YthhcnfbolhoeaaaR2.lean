/- The reference model of a disk in memory: its methods. -/
import Derived.Test.YthhcnfbolhoeaaaR1
namespace Go.Proofs.Ythhcnfbolhoeaaa
open Go.RowKit
set_option linter.unusedVariables false

structure RRep where
  p : Nat
  pv : Value
  left : Int
def RRep.foot (r : RRep) (k : Nat) : Prop := k = r.p ∨ r.pv.ownBlock = some k
def prs : List (Nat × Bytes) → List Value
  | [] => []
  | p :: ps => .int .i64 (p.1 : Int) :: .string (sb p.2) :: prs ps
theorem prs_length : ∀ ps : List (Nat × Bytes), (prs ps).length = ps.length * 2
  | [] => rfl
  | p :: ps => by simp only [prs, List.length_cons, prs_length ps]; omega
theorem prs_append : ∀ (ps : List (Nat × Bytes)) (p : Nat × Bytes), prs (ps ++ [p]) = prs ps ++ [.int .i64 (p.1 : Int), .string (sb p.2)]
  | [], _ => rfl
  | q :: ps, p => by simp only [List.cons_append, prs, prs_append ps p]
theorem prs_at : ∀ (ps : List (Nat × Bytes)) (i : Nat), i < ps.length →
    (prs ps)[i * 2]? = some (.int .i64 ((ps.getD i (0, [])).1 : Int)) ∧ (prs ps)[i * 2 + 1]? = some (.string (sb (ps.getD i (0, [])).2))
  | [], _, h => by simp at h
  | p :: ps, 0, _ => ⟨rfl, rfl⟩
  | p :: ps, i + 1, hi => by
    have := prs_at ps i (by simpa using hi)
    rw [show (i + 1) * 2 = i * 2 + 1 + 1 by omega]
    simpa [prs] using this

def RRep.obj (r : RRep) (d : DS) : Obj := .cells #[.string (sb d.now), .string (sb d.synced), r.pv, .int .i64 d.calls, .int .i64 r.left, .bool d.failing] 66 (0, 0)
structure IsRef (w : World) (r : RRep) (d : DS) : Prop where
  blk : w.heap[r.p]? = some (r.obj d)
  prt : w.ownsRow 0 73 2 r.pv d.parts.length (prs d.parts)
  left : d.failing = true → r.left = d.left
  low : -1 ≤ r.left + d.calls ∧ r.left ≤ 1000000000000
  ok : d.Ok
structure RStep (w : World) (r : RRep) (w' : World) (r' : RRep) (d' : DS) : Prop where
  disk : IsRef w' r' d'
  p : r'.p = r.p
  keep : Keep r.foot w w'
  foot : ∀ k, r'.foot k → r.foot k ∨ w.heap.size ≤ k
theorem RStep.refl {w : World} {r : RRep} {d : DS} (h : IsRef w r d) : RStep w r w r d := ⟨h, rfl, Keep.refl _ _, fun _ h => .inl h⟩
theorem RStep.trans {w w1 w2 : World} {r r1 r2 : RRep} {d1 d2 : DS} (h : RStep w r w1 r1 d1) (k : RStep w1 r1 w2 r2 d2) : RStep w r w2 r2 d2 :=
  ⟨k.disk, k.p.trans h.p, h.keep.then k.keep h.foot, fun i hi => by
    rcases k.foot i hi with h1 | h1
    · exact h.foot i h1
    · exact .inr (Nat.le_trans h.keep.size h1)⟩
theorem IsRef.foot_lt {w : World} {r : RRep} {d : DS} (h : IsRef w r d) : ∀ k, r.foot k → k < w.heap.size := by
  rintro k (rfl | hk)
  · exact blk_lt h.blk
  · exact own_lt h.prt k hk
theorem IsRef.keep {w w' : World} {r : RRep} {d : DS} {F : Nat → Prop} (h : IsRef w r d) (hk : Keep F w w') (hF : ∀ k, r.foot k → ¬ F k) : IsRef w' r d :=
  ⟨(hk.block r.p (blk_lt h.blk) (hF _ (.inl rfl))).trans h.blk, hk.own h.prt (fun b hb => hF b (.inr hb)), h.left, h.low, h.ok⟩
theorem RStep.quiet {w w1 w2 : World} {r r1 : RRep} {d1 : DS} (h : RStep w r w1 r1 d1) (k : Keep (fun _ => False) w1 w2) : RStep w r w2 r1 d1 :=
  ⟨h.disk.keep k (fun _ _ => id), h.p, h.keep.trans (k.mono (fun _ => False.elim)), h.foot⟩
theorem RStep.after {w w1 w2 : World} {r r2 : RRep} {d2 : DS} (h : Keep r.foot w w1) (k : RStep w1 r w2 r2 d2) : RStep w r w2 r2 d2 :=
  ⟨k.disk, k.p, h.trans k.keep, fun i hi => by
    rcases k.foot i hi with h1 | h1
    · exact .inl h1
    · exact .inr (Nat.le_trans h.size h1)⟩
theorem IsRef.p_ne {w : World} {r : RRep} {d : DS} (h : IsRef w r d) : ∀ b, r.pv.ownBlock = some b → b ≠ r.p := fun b hb => by
  have hb0 := h.blk
  unfold RRep.obj at hb0
  exact blk_own_ne hb0 h.prt hb (by decide)
theorem IsRef.cells {w : World} {r : RRep} {d : DS} (h : IsRef w r d) : ∃ A c, r.pv = .slice A d.parts.length c ∧
    w.cell? ⟨r.p, 0, none⟩ = some (.string (sb d.now)) ∧ w.cell? ⟨r.p, 1, none⟩ = some (.string (sb d.synced)) ∧ w.cell? ⟨r.p, 2, none⟩ = some (.slice A d.parts.length c) ∧
    w.cell? ⟨r.p, 3, none⟩ = some (.int .i64 d.calls) ∧ w.cell? ⟨r.p, 4, none⟩ = some (.int .i64 r.left) ∧ w.cell? ⟨r.p, 5, none⟩ = some (.bool d.failing) ∧
    w.frozen? ⟨r.p, 0, none⟩ = false ∧ w.frozen? ⟨r.p, 1, none⟩ = false ∧ w.frozen? ⟨r.p, 2, none⟩ = false ∧ w.frozen? ⟨r.p, 3, none⟩ = false ∧ w.frozen? ⟨r.p, 4, none⟩ = false ∧ w.frozen? ⟨r.p, 5, none⟩ = false := by
  obtain ⟨A, c, h2⟩ := own_slice h.prt
  have hb := h.blk
  unfold RRep.obj at hb
  refine ⟨A, c, h2, ?_, ?_, ?_, ?_, ?_, ?_, blk_free hb 0, blk_free hb 1, blk_free hb 2, blk_free hb 3, blk_free hb 4, blk_free hb 5⟩
  · rw [blk_cell hb]; rfl
  · rw [blk_cell hb]; rfl
  · rw [blk_cell hb, ← h2]; rfl
  · rw [blk_cell hb]; rfl
  · rw [blk_cell hb]; rfl
  · rw [blk_cell hb]; rfl
/-- The block alone is turned. -/
theorem IsRef.turned {w w' : World} {r r' : RRep} {d d' : DS} (h : IsRef w r d) (hk : Keep (· = r.p) w w') (hp : r'.p = r.p) (hb : w'.heap[r.p]? = some (r'.obj d'))
    (e2 : r'.pv = r.pv) (e3 : d'.parts = d.parts) (hl : d'.failing = true → r'.left = d'.left) (hlow : -1 ≤ r'.left + d'.calls ∧ r'.left ≤ 1000000000000) (ok : d'.Ok) : RStep w r w' r' d' :=
  ⟨⟨hp.symm ▸ hb, by rw [e2, e3]; exact hk.own h.prt (fun b hb => h.p_ne b hb), hl, hlow, ok⟩, hp, hk.mono (fun k e => .inl e), fun k hk => .inl (by
    rcases hk with hk | hk
    · exact .inl (hk.trans hp)
    · exact .inr (e2 ▸ hk))⟩

theorem new_ref (w : World) : Calls Try.prog 15 #[] w fun e w' => e = .returned (.pointer (some ⟨w.heap.size, 0, none⟩)) ∧
    w.alloc (.cells #[.string ⟨#[]⟩, .string ⟨#[]⟩, .slice none 0 0, .int .i64 0, .int .i64 0, .bool false] 66) = w' := by
  go_enter Try.func15, Try.ntmps15
  go_wp2_with fail
  go_ret
  exact ⟨rfl, rfl⟩
theorem isRef_new (w : World) : IsRef (w.alloc (.cells #[.string ⟨#[]⟩, .string ⟨#[]⟩, .slice none 0 0, .int .i64 0, .int .i64 0, .bool false] 66)) ⟨w.heap.size, .slice none 0 0, 0⟩ DS.new :=
  ⟨heap_alloc_new _ _, World.ownsRow_nil _ _ _ _, fun h => by simp [DS.new] at h, by simp [DS.new], ⟨by simp [DS.new], by simp [DS.new], by simp [DS.new], by simp [DS.new], by simp [DS.new]⟩⟩
theorem size_ref {w : World} {r : RRep} {d : DS} (h : IsRef w r d) : Calls Try.prog 18 #[.pointer (some ⟨r.p, 0, none⟩)] w fun e w' => e = .returned (.int .i64 d.now.length) ∧ w = w' := by
  obtain ⟨A, c, _, h0, _⟩ := h.cells
  have hs := sb_size d.now
  clear h
  go_enter Try.func18, Try.ntmps18
  go_wp2_with fail
  go_ret
  exact ⟨rfl, rfl⟩
theorem calls_ref {w : World} {r : RRep} {d : DS} (h : IsRef w r d) : Calls Try.prog 20 #[.pointer (some ⟨r.p, 0, none⟩)] w fun e w' => e = .returned (.int .i64 d.calls) ∧ w = w' := by
  obtain ⟨A, c, _, _, _, _, h3, _⟩ := h.cells
  clear h
  go_enter Try.func20, Try.ntmps20
  go_wp2_with fail
  go_ret
  exact ⟨rfl, rfl⟩

/-- off: the power is off. -/
theorem off_ref {w : World} {r : RRep} {d : DS} (h : IsRef w r d) (ho : d.off = true) : Calls Try.prog 42 #[.pointer (some ⟨r.p, 0, none⟩)] w fun e w' => e = .returned (.bool true) ∧ w = w' := by
  obtain ⟨A, c, _, _, _, _, _, h4, h5, _⟩ := h.cells
  have hl := h.left
  simp only [DS.off, Bool.and_eq_true, decide_eq_true_eq] at ho
  rw [hl ho.1, ho.2] at h4
  rw [ho.1] at h5
  clear h ho hl
  go_enter Try.func42, Try.ntmps42
  go_wp2_with fail
  go_ret
  exact ⟨rfl, rfl⟩
theorem on_ref {w : World} {r : RRep} {d : DS} (h : IsRef w r d) (ho : d.off = false) (hc : d.calls ≤ 1000000000000) :
    Calls Try.prog 42 #[.pointer (some ⟨r.p, 0, none⟩)] w fun e w' => e = .returned (.bool false) ∧ RStep w r w' { r with left := r.left - 1 } d.called := by
  obtain ⟨A, c, e2, h0, h1, h2, h3, h4, h5, f0, f1, f2, f3, f4, f5⟩ := h.cells
  have ok := h.ok
  have hb := h.blk
  unfold RRep.obj at hb
  have hc0 := ok.calls
  have hlow := h.low
  have hleft := h.left
  have hk : Keep (· = r.p) w ((w.setCell ⟨r.p, 4, none⟩ (.int .i64 (r.left - 1))).setCell ⟨r.p, 3, none⟩ (.int .i64 (d.calls + 1))) := keep_set (keep_set (Keep.refl _ w) _ _) _ _
  have hbl := blk_set (blk_set hb 4 (.int .i64 (r.left - 1))) 3 (.int .i64 (d.calls + 1))
  have hfin : RStep w r ((w.setCell ⟨r.p, 4, none⟩ (.int .i64 (r.left - 1))).setCell ⟨r.p, 3, none⟩ (.int .i64 (d.calls + 1))) { r with left := r.left - 1 } d.called := by
    refine h.turned hk rfl hbl rfl rfl (fun hf => ?_) ?_ ⟨by show 0 ≤ d.calls + 1; omega, ok.now, ok.syn, ok.part, fun hf => ?_⟩
    · have hf' : d.failing = true := hf
      show r.left - 1 = if d.failing then d.left - 1 else d.left
      rw [hf', hleft hf']
      rfl
    · show -1 ≤ r.left - 1 + (d.calls + 1) ∧ r.left - 1 ≤ _
      omega
    · have hf' : d.failing = true := hf
      have h1 := ok.left hf'
      have h2 : d.left ≠ 0 := by
        intro e
        simp [DS.off, hf', e] at ho
      show 0 ≤ (if d.failing then d.left - 1 else d.left) ∧ (if d.failing then d.left - 1 else d.left) ≤ _
      rw [hf']
      simp only [if_true]
      omega
  have HFIN := Lib.hid hfin
  cases hf : d.failing with
  | true =>
    have h2 : r.left ≠ 0 := by
      intro e
      rw [hleft hf] at e
      simp [DS.off, hf, e] at ho
    have h2b : (r.left == 0) = false := by simpa using h2
    rw [hf] at h5
    clear h ok hb hleft hk hbl hfin ho hf e2 h0 h1
    go_enter Try.func42, Try.ntmps42
    go_wp2_with fail
    go_ret
    exact ⟨rfl, HFIN.out⟩
  | false =>
    rw [hf] at h5
    clear h ok hb hleft hk hbl hfin ho hf e2 h0 h1
    go_enter Try.func42, Try.ntmps42
    go_wp2_with fail
    go_ret
    exact ⟨rfl, HFIN.out⟩
theorem fail_ref {w : World} {r : RRep} {d : DS} (h : IsRef w r d) (n : Int) (hn : -1 ≤ n ∧ n ≤ 1000000000000) :
    Calls Try.prog 35 #[.pointer (some ⟨r.p, 0, none⟩), .int .i64 n] w fun e w' => e = .returned (.tuple #[]) ∧ RStep w r w' { r with left := n } (d.fail n) := by
  obtain ⟨A, c, e2, h0, h1, h2, h3, h4, h5, f0, f1, f2, f3, f4, f5⟩ := h.cells
  have ok := h.ok
  have hb := h.blk
  unfold RRep.obj at hb
  have hc0 := ok.calls
  have hk : Keep (· = r.p) w ((w.setCell ⟨r.p, 5, none⟩ (.bool (decide (0 ≤ n)))).setCell ⟨r.p, 4, none⟩ (.int .i64 n)) := keep_set (keep_set (Keep.refl _ w) _ _) _ _
  have hbl := blk_set (blk_set hb 5 (.bool (decide (0 ≤ n)))) 4 (.int .i64 n)
  have hfin : RStep w r ((w.setCell ⟨r.p, 5, none⟩ (.bool (decide (0 ≤ n)))).setCell ⟨r.p, 4, none⟩ (.int .i64 n)) { r with left := n } (d.fail n) := by
    refine h.turned hk rfl hbl rfl rfl (fun hf => rfl) ?_ ⟨ok.calls, ok.now, ok.syn, ok.part, fun hf => ?_⟩
    · show -1 ≤ n + d.calls ∧ n ≤ _
      omega
    · simp [DS.fail] at hf ⊢
      omega
  have HFIN := Lib.hid hfin
  clear h ok hb hk hbl hfin e2 h0 h1 h2 h3
  go_enter Try.func35, Try.ntmps35
  go_wp2_with fail
  go_end0
  exact ⟨rfl, HFIN.out⟩
theorem sync_ref {w : World} {r : RRep} {d : DS} (h : IsRef w r d) (ho : d.off = false) (hc : d.calls ≤ 1000000000000) :
    Calls Try.prog 33 #[.pointer (some ⟨r.p, 0, none⟩)] w fun e w' => e = .returned (.int .i64 0) ∧ ∃ r', RStep w r w' r' d.sync := by
  have C1 := Lib.hid (on_ref h ho hc)
  clear ho hc h
  go_enter Try.func33, Try.ntmps33
  go_wp2_with fail
  refine C1.out.mono ?_
  rintro e w1 ⟨rfl, hs1⟩
  obtain ⟨A, c, e2, h0, h1, h2, h3, h4, h5, f0, f1, f2, f3, f4, f5⟩ := hs1.disk.cells
  have hb := hs1.disk.blk
  unfold RRep.obj at hb
  have hbl := blk_set (blk_set hb 1 (.string (sb d.now))) 2 (.slice none 0 0)
  have hk : Keep (· = r.p) w1 ((w1.setCell ⟨r.p, 1, none⟩ (.string (sb d.now))).setCell ⟨r.p, 2, none⟩ (.slice none 0 0)) := keep_set (keep_set (Keep.refl _ w1) _ _) _ _
  have hfin : RStep w1 { r with left := r.left - 1 } ((w1.setCell ⟨r.p, 1, none⟩ (.string (sb d.now))).setCell ⟨r.p, 2, none⟩ (.slice none 0 0)) { r with left := r.left - 1, pv := .slice none 0 0 } d.sync := by
    have ok := hs1.disk.ok
    refine ⟨⟨hbl, World.ownsRow_nil _ _ _ _, hs1.disk.left, hs1.disk.low, ⟨ok.calls, ok.now, ok.now, fun p hp => by simp [DS.sync] at hp, ok.left⟩⟩, rfl, hk.mono (fun k e => .inl e), ?_⟩
    rintro k (hk | hk)
    · exact .inl (.inl hk)
    · simp [Value.ownBlock] at hk
  have HFIN := Lib.hid (RStep.trans hs1 hfin)
  clear hs1 hb hbl hk hfin e2 h3 h4 h5 f0 f3 f4 f5
  go_wp2_with fail
  go_ret
  exact ⟨rfl, _, HFIN.out⟩
theorem syncoff_ref {w : World} {r : RRep} {d : DS} (h : IsRef w r d) (ho : d.off = true) :
    Calls Try.prog 33 #[.pointer (some ⟨r.p, 0, none⟩)] w fun e w' => e = .returned (.int .i64 70) ∧ w = w' := by
  have C1 := Lib.hid (off_ref h ho)
  clear ho h
  go_enter Try.func33, Try.ntmps33
  go_wp2_with fail
  refine C1.out.mono ?_
  rintro e w1 ⟨rfl, rfl⟩
  go_wp2_with fail
  go_ret
  exact ⟨rfl, rfl⟩
end Go.Proofs.Ythhcnfbolhoeaaa
