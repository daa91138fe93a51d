/- A cache's site in memory, and the contracts of its functions but Text. -/
import Derived.Test.YtdfmmgepapiamaaDoorS0
import Derived.StillTailTactics
import Derived.Deep.RegionLaw
import Derived.Laws.CopyOwn
import Derived.RegionTactic
namespace Go.Proofs.YtdfmmgepapiamaaDoor
open Go.RowKit
set_option linter.unusedVariables false

def tail4 (s : CS) : List Value := [.int .i64 (s.l.length : Int), .bool s.full, .int .i64 s.hits, .int .i64 s.misses]
def PairsAt (e : List Value) (l : List (Int × Int)) : Prop := ∀ i, i < l.length → e[i * 2]? = some (.int .i64 (prAt l i).1) ∧ e[i * 2 + 1]? = some (.int .i64 (prAt l i).2)
def IsSite (w : World) (p : Nat) (s : CS) : Prop := ∃ e : List Value, e.length = 8 ∧ PairsAt e s.l ∧ w.heap[p]? = some (.cells (e ++ tail4 s).toArray 53 (0, 0)) ∧ s.Ok
theorem IsSite.ok {w : World} {p : Nat} {s : CS} (h : IsSite w p s) : s.Ok := let ⟨_, _, _, _, ok⟩ := h; ok
theorem IsSite.lt {w : World} {p : Nat} {s : CS} (h : IsSite w p s) : p < w.heap.size := let ⟨_, _, _, hb, _⟩ := h; blk_lt hb
theorem IsSite.keep {w w' : World} {p : Nat} {s : CS} {F : Nat → Prop} (h : IsSite w p s) (hk : Keep F w w') (hF : ¬ F p) : IsSite w' p s :=
  let ⟨e, h1, h2, h3, h4⟩ := h; ⟨e, h1, h2, (hk.block p (blk_lt h3) hF).trans h3, h4⟩
theorem IsSite.since {w w' : World} {p n : Nat} {s : CS} (h : IsSite w p s) (hk : Since n w w') (hn : p < n) : IsSite w' p s := h.keep hk (by omega)
theorem IsSite.cells {w : World} {p : Nat} {s : CS} (h : IsSite w p s) :
    w.cell? ⟨p, 8, none⟩ = some (.int .i64 (s.l.length : Int)) ∧ w.cell? ⟨p, 9, none⟩ = some (.bool s.full) ∧ w.cell? ⟨p, 10, none⟩ = some (.int .i64 s.hits) ∧ w.cell? ⟨p, 11, none⟩ = some (.int .i64 s.misses) ∧ ∀ i, w.frozen? ⟨p, i, none⟩ = false := by
  obtain ⟨e, h1, h2, h3, h4⟩ := h
  have hc : ∀ j, j < 4 → w.cell? ⟨p, 8 + j, none⟩ = (tail4 s)[j]? := fun j hj => by
    rw [blk_cell h3, ← Array.getElem?_toList]
    show (e ++ tail4 s)[8 + j]? = _
    rw [List.getElem?_append_right (by omega), h1, Nat.add_sub_cancel_left]
  exact ⟨hc 0 (by omega), hc 1 (by omega), hc 2 (by omega), hc 3 (by omega), fun i => blk_free h3 i⟩
theorem IsSite.pair {w : World} {p : Nat} {s : CS} (h : IsSite w p s) (i : Nat) (hi : i < s.l.length) :
    w.cell? ⟨p, i * 2, none⟩ = some (.int .i64 (prAt s.l i).1) ∧ w.cell? ⟨p, i * 2 + 1, none⟩ = some (.int .i64 (prAt s.l i).2) := by
  obtain ⟨e, h1, h2, h3, h4⟩ := h
  have hl := h4.len
  obtain ⟨a, b⟩ := h2 i hi
  constructor
  · rw [blk_cell h3, ← Array.getElem?_toList, ← a]
    show (e ++ tail4 s)[i * 2]? = _
    rw [List.getElem?_append_left (by omega)]
  · rw [blk_cell h3, ← Array.getElem?_toList, ← b]
    show (e ++ tail4 s)[i * 2 + 1]? = _
    rw [List.getElem?_append_left (by omega)]
theorem app_set_right (e t : List Value) (i : Nat) (v : Value) (h : e.length = 8) : (e ++ t).toArray.setIfInBounds (8 + i) v = (e ++ t.set i v).toArray := by
  apply Array.ext'
  rw [Array.toList_setIfInBounds]
  show (e ++ t).set (8 + i) v = e ++ t.set i v
  rw [List.set_append_right _ _ (by omega), h, Nat.add_sub_cancel_left]
theorem app_set_left (e t : List Value) (i : Nat) (v : Value) (h : i < e.length) : (e ++ t).toArray.setIfInBounds i v = (e.set i v ++ t).toArray := by
  apply Array.ext'
  rw [Array.toList_setIfInBounds]
  show (e ++ t).set i v = e.set i v ++ t
  rw [List.set_append_left _ _ h]

/-! ### index -/
set_option maxHeartbeats 1000000 in
theorem index_some {w : World} {p : Nat} {s : CS} (h : IsSite w p s) (x : Int) {k : Nat} (hk : First s.l x k) :
    Calls Tryd.prog 26 #[.pointer (some ⟨p, 0, none⟩), .int .i64 x] w fun e w' => e = .returned (.int .i64 (k : Int)) ∧ w = w' := by
  obtain ⟨c8, _, _, _, _⟩ := h.cells
  have hl := h.ok.len
  have hkl := hk.1
  have HP := Lib.hid h.pair
  have HK := Lib.hid hk
  clear h hk
  go_enter Tryd.func26, Tryd.ntmps26
  go_wp2_with fail
  go_loop [10] (fun i => ∃ j : Nat, j ≤ k ∧ i = .int .i64 (j : Int)) (fun i => k + 1 - (intOf i).toNat)
  case atStart => exact ⟨0, Nat.zero_le _, rfl⟩
  case round =>
    obtain ⟨j, hj, rfl⟩ := hrel
    obtain ⟨q1, q2⟩ := HP.out j (by omega)
    have hlt : decide ((j : Int) < (s.l.length : Int)) = true := by simp; omega
    have hltn : decide (j < s.l.length) = true := by simp; omega
    have hj4 : j < 4 := by omega
    by_cases hjk : j = k
    · subst hjk
      rw [HK.out.2.1] at q1
      have hb : (x == x) = true := by simp
      go_wp2_with fail
      go_ret
      exact ⟨rfl, rfl⟩
    · have hne := HK.out.2.2 j (by omega)
      have hb : ((prAt s.l j).1 == x) = false := by simpa using hne
      go_wp2_with fail
      exact ⟨⟨j + 1, by omega, by go_num⟩, by simp [intOf]; omega⟩
set_option maxHeartbeats 1000000 in
theorem index_none {w : World} {p : Nat} {s : CS} (h : IsSite w p s) (x : Int) (hk : Absent s.l x) :
    Calls Tryd.prog 26 #[.pointer (some ⟨p, 0, none⟩), .int .i64 x] w fun e w' => e = .returned (.int .i64 (-1)) ∧ w = w' := by
  obtain ⟨c8, _, _, _, _⟩ := h.cells
  have hl := h.ok.len
  have HP := Lib.hid h.pair
  have HK := Lib.hid hk
  clear h hk
  go_enter Tryd.func26, Tryd.ntmps26
  go_wp2_with fail
  go_loop [10] (fun i => ∃ j : Nat, j ≤ s.l.length ∧ i = .int .i64 (j : Int)) (fun i => s.l.length + 1 - (intOf i).toNat)
  case atStart => exact ⟨0, Nat.zero_le _, rfl⟩
  case round =>
    obtain ⟨j, hj, rfl⟩ := hrel
    by_cases hjk : j = s.l.length
    · have hltn : decide (j < s.l.length) = false := by simp; omega
      go_wp2_with fail
      go_ret
      exact ⟨rfl, rfl⟩
    · obtain ⟨q1, q2⟩ := HP.out j (by omega)
      have hltn : decide (j < s.l.length) = true := by simp; omega
      have hj4 : j < 4 := by omega
      have hne := HK.out j (by omega)
      obtain ⟨a, ha⟩ : ∃ a, (prAt s.l j).1 = a := ⟨_, rfl⟩
      rw [ha] at q1 hne
      have hb : (a == x) = false := by simpa using hne
      clear ha hne q2
      go_wp2_with fail
      exact ⟨⟨j + 1, by omega, by go_num⟩, by simp [intOf]; omega⟩

/-! ### New, State, Counts -/
theorem new_site (w : World) : Calls Tryd.prog 11 #[] w fun e w' => e = .returned (.pointer (some ⟨w.heap.size, 0, none⟩)) ∧ IsSite w' w.heap.size CS.new ∧ Since w.heap.size w w' := by
  go_enter Tryd.func11, Tryd.ntmps11
  go_wp2_with fail
  go_ret
  refine ⟨rfl, ⟨List.replicate 8 (.int .i64 0), rfl, fun i hi => absurd hi (by simp [CS.new]), heap_alloc_new _ _, ok_new⟩, Since.of ((Keep.refl _ w).alloc' _)⟩
theorem state_any {w : World} {p : Nat} {s : CS} (h : IsSite w p s) :
    Calls Tryd.prog 16 #[.pointer (some ⟨p, 0, none⟩)] w fun e w' => e = .returned (.int .i64 s.state) ∧ w = w' := by
  obtain ⟨c8, c9, _, _, _⟩ := h.cells
  have hl := h.ok.len
  cases hf : s.full with
  | true =>
    rw [hf] at c9
    have HE := Lib.hid (show s.state = 3 by unfold CS.state; rw [if_pos hf])
    clear h hf
    go_enter Tryd.func16, Tryd.ntmps16
    go_wp2_with fail
    go_ret
    exact ⟨by rw [HE.out]; rfl, rfl⟩
  | false =>
    rw [hf] at c9
    by_cases h1 : 1 < s.l.length
    · have HE := Lib.hid (show s.state = 2 by unfold CS.state; rw [hf]; simp [h1])
      have hb : decide (1 < s.l.length) = true := by simpa using h1
      clear h hf
      go_enter Tryd.func16, Tryd.ntmps16
      go_wp2_with fail
      go_ret
      exact ⟨by rw [HE.out]; rfl, rfl⟩
    · have HE := Lib.hid (show s.state = (s.l.length : Int) by unfold CS.state; rw [hf]; simp [h1])
      have hb : decide (1 < s.l.length) = false := by simpa using h1
      clear h hf
      go_enter Tryd.func16, Tryd.ntmps16
      go_wp2_with fail
      go_ret
      exact ⟨by rw [HE.out]; rfl, rfl⟩
theorem counts_any {w : World} {p : Nat} {s : CS} (h : IsSite w p s) :
    Calls Tryd.prog 18 #[.pointer (some ⟨p, 0, none⟩)] w fun e w' => e = .returned (.tuple #[.int .i64 s.hits, .int .i64 s.misses]) ∧ ∃ k, w' = w.drewN k := by
  obtain ⟨_, _, c10, c11, _⟩ := h.cells
  clear h
  go_enter Tryd.func18, Tryd.ntmps18
  go_wp2_with fail
  go_quiet (fail)
  go_wp2_with fail
  go_ret2
  exact ⟨rfl, _, rfl⟩
end Go.Proofs.YtdfmmgepapiamaaDoor
