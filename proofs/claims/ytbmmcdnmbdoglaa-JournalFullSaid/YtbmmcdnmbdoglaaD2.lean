/- Contracts of the disk's small functions: New, Size, Calls, call, Fail, settle, add. -/
import Derived.Test.YtbmmcdnmbdoglaaD1
namespace Go.Proofs.Ytbmmcdnmbdoglaa
open Go.RowKit
set_option linter.unusedVariables false

def nilV : Value := .slice none 0 0
theorem new_disk (w : World) : Calls Try.prog 11 #[] w fun e w' => e = .returned (.pointer (some ⟨w.heap.size, 0, none⟩)) ∧
    w.alloc (.cells #[.slice none 0 0, .slice none 0 0, .slice none 0 0, .int .i64 0, .bool false, .int .i64 0] 59) = w' := by
  go_enter Try.func11, Try.ntmps11
  go_wp2_with fail
  go_ret
  exact ⟨rfl, rfl⟩
theorem isDisk_new (w : World) : IsDisk (w.alloc (.cells #[.slice none 0 0, .slice none 0 0, .slice none 0 0, .int .i64 0, .bool false, .int .i64 0] 59)) ⟨w.heap.size, .slice none 0 0, .slice none 0 0, .slice none 0 0, []⟩ DS.new where
  blk := heap_alloc_new _ _
  now := World.ownsRow_nil _ _ _ _
  syn := World.ownsRow_nil _ _ _ _
  prt := World.ownsRow_nil _ _ _ _
  txl := rfl
  txt := fun i hi => by simp [DS.new] at hi
  sep1 := fun b hb => by simp [Value.ownBlock] at hb
  sep2 := fun t ht => by simp at ht
  sep3 := fun t ht => by simp at ht
  ok := ⟨by simp [DS.new], by simp [DS.new], by simp [DS.new], by simp [DS.new], by simp [DS.new]⟩
theorem foot_new (w : World) : ∀ k, (⟨w.heap.size, .slice none 0 0, .slice none 0 0, .slice none 0 0, []⟩ : Rep).foot k → w.heap.size ≤ k := by
  rintro k (rfl | h | h | h | ⟨t, ht, _⟩)
  · exact Nat.le_refl _
  · simp [Value.ownBlock] at h
  · simp [Value.ownBlock] at h
  · simp [Value.ownBlock] at h
  · simp at ht

/-- What a disk's block holds, cell by cell. -/
theorem IsDisk.cells {w : World} {r : Rep} {d : DS} (h : IsDisk w r d) : ∃ A0 c0 A1 c1 A2 c2, r.nv = .slice A0 d.now.length c0 ∧ r.sv = .slice A1 d.synced.length c1 ∧ r.pv = .slice A2 d.parts.length c2 ∧
    w.cell? ⟨r.p, 0, none⟩ = some (.slice A0 d.now.length c0) ∧ w.cell? ⟨r.p, 1, none⟩ = some (.slice A1 d.synced.length c1) ∧ w.cell? ⟨r.p, 2, none⟩ = some (.slice A2 d.parts.length c2) ∧
    w.cell? ⟨r.p, 3, none⟩ = some (.int .i64 d.calls) ∧ w.cell? ⟨r.p, 4, none⟩ = some (.bool d.failing) ∧ w.cell? ⟨r.p, 5, none⟩ = some (.int .i64 d.left) ∧
    w.frozen? ⟨r.p, 0, none⟩ = false ∧ w.frozen? ⟨r.p, 1, none⟩ = false ∧ w.frozen? ⟨r.p, 2, none⟩ = false ∧ w.frozen? ⟨r.p, 3, none⟩ = false ∧ w.frozen? ⟨r.p, 4, none⟩ = false ∧ w.frozen? ⟨r.p, 5, none⟩ = false := by
  obtain ⟨A0, c0, h0⟩ := own_slice h.now
  obtain ⟨A1, c1, h1⟩ := own_slice h.syn
  obtain ⟨A2, c2, h2⟩ := own_slice h.prt
  have hb := h.blk
  refine ⟨A0, c0, A1, c1, A2, c2, h0, h1, h2, ?_, ?_, ?_, ?_, ?_, ?_, blk_free hb 0, blk_free hb 1, blk_free hb 2, blk_free hb 3, blk_free hb 4, blk_free hb 5⟩
  · rw [blk_cell hb, ← h0]; rfl
  · rw [blk_cell hb, ← h1]; rfl
  · rw [blk_cell hb, ← h2]; rfl
  · rw [blk_cell hb]; rfl
  · rw [blk_cell hb]; rfl
  · rw [blk_cell hb]; rfl

theorem size_disk {w : World} {r : Rep} {d : DS} (h : IsDisk w r d) : Calls Try.prog 26 #[.pointer (some ⟨r.p, 0, none⟩)] w fun e w' => e = .returned (.int .i64 d.now.length) ∧ w = w' := by
  obtain ⟨A0, c0, _, _, _, _, _, _, _, h0, _⟩ := h.cells
  clear h
  go_enter Try.func26, Try.ntmps26
  go_wp2_with fail
  go_ret
  exact ⟨rfl, rfl⟩

/-- call: the power is off. -/
theorem call_off {w : World} {r : Rep} {d : DS} (h : IsDisk w r d) (ho : d.off = true) : Calls Try.prog 35 #[.pointer (some ⟨r.p, 0, none⟩)] w fun e w' => e = .returned (.int .i64 70) ∧ w = w' := by
  obtain ⟨A0, c0, _, _, _, _, _, _, _, _, _, _, _, h4, h5, _⟩ := h.cells
  simp only [DS.off, Bool.and_eq_true, decide_eq_true_eq] at ho
  rw [ho.1] at h4
  rw [ho.2] at h5
  clear h ho
  go_enter Try.func35, Try.ntmps35
  go_wp2_with fail
  go_ret
  exact ⟨rfl, rfl⟩
/-- call: it is on: the call is counted. -/
theorem call_on {w : World} {r : Rep} {d : DS} (h : IsDisk w r d) (ho : d.off = false) (hc : d.calls ≤ 1000000000000) :
    Calls Try.prog 35 #[.pointer (some ⟨r.p, 0, none⟩)] w fun e w' => e = .returned (.int .i64 0) ∧ IsDisk w' r d.called ∧ Keep (· = r.p) w w' := by
  obtain ⟨A0, c0, A1, c1, A2, c2, e0, e1, e2, h0, h1, h2, h3, h4, h5, f0, f1, f2, f3, f4, f5⟩ := h.cells
  have ok := h.ok
  have hb := h.blk
  have H := Lib.hid h
  have HB := Lib.hid hb
  have HOK := Lib.hid ok
  have hc0 := ok.calls
  clear h hb e0 e1 e2 h0 h1 h2
  cases hf : d.failing with
  | true =>
    have hl : d.left ≠ 0 := by simpa [DS.off, hf] using ho
    have hl0 := ok.left hf
    have hlb : (d.left == 0) = false := by simpa using hl
    rw [hf] at h4
    have HF := Lib.hid hf
    clear ok ho hf
    go_enter Try.func35, Try.ntmps35
    go_wp2_with fail
    go_ret
    have hk : Keep (· = r.p) w ((w.setCell ⟨r.p, 5, none⟩ (.int .i64 (d.left - 1))).setCell ⟨r.p, 3, none⟩ (.int .i64 (d.calls + 1))) := keep_set (keep_set (Keep.refl _ w) _ _) _ _
    have hbl := blk_set (blk_set HB.out 5 (.int .i64 (d.left - 1))) 3 (.int .i64 (d.calls + 1))
    refine ⟨rfl, H.out.turned hk ?_ rfl rfl rfl ⟨by have := HOK.out.calls; simp [DS.called]; omega, HOK.out.now, HOK.out.syn, HOK.out.part, fun _ => ?_⟩, hk⟩
    · simpa [DS.called, HF.out] using hbl
    · simp only [DS.called, HF.out, if_true]
      omega
  | false =>
    rw [hf] at h4
    have HF := Lib.hid hf
    clear ok ho hf
    go_enter Try.func35, Try.ntmps35
    go_wp2_with fail
    go_ret
    have hk : Keep (· = r.p) w (w.setCell ⟨r.p, 3, none⟩ (.int .i64 (d.calls + 1))) := keep_set (Keep.refl _ w) _ _
    have hbl := blk_set HB.out 3 (.int .i64 (d.calls + 1))
    refine ⟨rfl, H.out.turned hk ?_ rfl rfl rfl ⟨by have := HOK.out.calls; simp [DS.called]; omega, HOK.out.now, HOK.out.syn, HOK.out.part, fun h => by simp [DS.called, HF.out] at h⟩, hk⟩
    simpa [DS.called, HF.out] using hbl

/-- Fail. -/
theorem fail_disk {w : World} {r : Rep} {d : DS} (h : IsDisk w r d) (n : Int) (hn : n ≤ 1000000000000) :
    Calls Try.prog 20 #[.pointer (some ⟨r.p, 0, none⟩), .int .i64 n] w fun e w' => e = .returned (.tuple #[]) ∧ IsDisk w' r (d.fail n) ∧ Keep (· = r.p) w w' := by
  obtain ⟨A0, c0, A1, c1, A2, c2, e0, e1, e2, h0, h1, h2, h3, h4, h5, f0, f1, f2, f3, f4, f5⟩ := h.cells
  have ok := h.ok
  have hb := h.blk
  have H := Lib.hid h
  have HB := Lib.hid hb
  have HOK := Lib.hid ok
  clear h hb e0 e1 e2 h0 h1 h2 ok
  go_enter Try.func20, Try.ntmps20
  go_wp2_with fail
  go_end0
  have hk : Keep (· = r.p) w ((w.setCell ⟨r.p, 4, none⟩ (.bool (decide (-1 < n)))).setCell ⟨r.p, 5, none⟩ (.int .i64 n)) := keep_set (keep_set (Keep.refl _ w) _ _) _ _
  have hbl := blk_set (blk_set HB.out 4 (.bool (decide (-1 < n)))) 5 (.int .i64 n)
  have hdec : decide (-1 < n) = decide (0 ≤ n) := decide_eq_decide.2 (by omega)
  rw [hdec] at hbl hk
  rw [hdec]
  refine ⟨rfl, H.out.turned hk ?_ rfl rfl rfl ⟨HOK.out.calls, HOK.out.now, HOK.out.syn, HOK.out.part, fun h => ?_⟩, hk⟩
  · simpa [DS.fail] using hbl
  · simp [DS.fail] at h ⊢
    omega

/-- settle, on the list of a disk's parts. -/
theorem settle_disk (w : World) (p : Nat) (v : Value) (h2 : w.cell? ⟨p, 2, none⟩ = some v) (f2 : w.frozen? ⟨p, 2, none⟩ = false) :
    Calls Try.prog 37 #[.pointer (some ⟨p, 2, none⟩)] w fun e w' => e = .returned (.tuple #[]) ∧ w.setCell ⟨p, 2, none⟩ (.slice none 0 0) = w' := by
  go_enter Try.func37, Try.ntmps37
  go_wp2_with fail
  go_end0
  exact ⟨rfl, rfl⟩
end Go.Proofs.Ytbmmcdnmbdoglaa
