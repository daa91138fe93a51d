/- Install: bits.Mul, slices.Repeat. -/
import Derived.Test.YtnhajhejkecihaaIY
import Derived.Laws.CopyRow
import Derived.Deep.RegionLaw
namespace Go.Proofs.Ytnhajhejkecihaa
open Go.RowKit Go.Lib
set_option linter.unusedVariables false
set_option linter.unusedSimpArgs false

set_option maxRecDepth 100000 in
set_option maxHeartbeats 2000000 in
theorem mul64_any (w : World) (n : Nat) (hn : 1 ≤ n ∧ n ≤ 4) : Calls Try.prog 35 #[.int .u64 1, .int .u64 n] w fun e w' => e = .returned (.tuple #[.int .u64 0, .int .u64 n]) ∧ w = w' := by
  rcases (show n = 1 ∨ n = 2 ∨ n = 3 ∨ n = 4 by omega) with rfl | rfl | rfl | rfl
  all_goals (
    go_enter Try.func35, Try.ntmps35
    go_wp2_with fail
    go_ret2
    exact ⟨rfl, rfl⟩)
set_option maxRecDepth 100000 in
set_option maxHeartbeats 2000000 in
theorem mul_any (w : World) (n : Nat) (hn : 1 ≤ n ∧ n ≤ 4) : Calls Try.prog 30 #[.int .u64 1, .int .u64 n] w fun e w' => e = .returned (.tuple #[.int .u64 0, .int .u64 n]) ∧ w = w' := by
  have HM := Lib.hid (mul64_any w n hn)
  go_enter Try.func30, Try.ntmps30
  go_wp2_with fail
  ((with_reducible refine HM.out.mono ?_); rintro e w' ⟨rfl, rfl⟩)
  go_wp2_with fail
  go_ret2
  exact ⟨rfl, rfl⟩
def rep (k n : Nat) : List Int := List.replicate k (-1) ++ List.replicate (n - k) 0
theorem rep_length {k n : Nat} (h : k ≤ n) : (rep k n).length = n := by simp [rep]; omega
theorem rep_next {k m n : Nat} (h : k + m ≤ n) : (rep k n).take k ++ List.replicate m (-1) ++ (rep k n).drop (k + m) = rep (k + m) n := by
  unfold rep
  have h1 : (List.replicate k (-1 : Int) ++ List.replicate (n - k) 0).take k = List.replicate k (-1) := by rw [List.take_left' (by simp)]
  have h2 : (List.replicate k (-1 : Int) ++ List.replicate (n - k) 0).drop (k + m) = List.replicate (n - (k + m)) 0 := by
    rw [List.drop_append, List.drop_eq_nil_of_le (by simp), List.nil_append, List.drop_replicate]
    congr 1
    simp
    omega
  rw [h1, h2, ← List.replicate_append_replicate]
theorem rep_at {j k n : Nat} (h : j < k) : (ints (rep k n))[j]? = some (.int .i64 (-1)) := by
  simp only [ints, rep, List.map_append, List.map_replicate]
  rw [List.getElem?_append_left (by simpa using h)]
  simp [h]
theorem Try.ints1 : OneTy Try.prog 47 3 (.int .i64 0) 8 := ⟨Try.underlying47, by kernel_rfl, rfl⟩
theorem ints_one1 (xs : List Int) : ∀ u ∈ ints xs, u.oneCell' = true := by
  intro u hu
  simp only [ints, List.mem_map] at hu
  obtain ⟨_, _, rfl⟩ := hu
  rfl
theorem ints_append1 (xs ys : List Int) : ints (xs ++ ys) = ints xs ++ ints ys := by simp [ints]
/-- The row that is being filled. -/
structure RP (w : World) (g k n : Nat) (W : World) : Prop where
  row : W.heap[g]? = some (.cells (ints (rep k n)).toArray 3 (0, 0))
  keep : Keep (fun _ => False) w W
  low : w.heap.size ≤ g
theorem RP.copied {w W : World} {g k m n : Nat} (h : RP w g k n W) (hm : k + m ≤ n) {new : Array Value} (hn : new.toList = (ints (rep k n)).take k ++ ints (List.replicate m (-1)) ++ (ints (rep k n)).drop (k + m)) : RP w g (k + m) n (W.setRow g new) := by
  have e : new = (ints (rep (k + m) n)).toArray := by
    apply Array.ext'
    rw [hn, ← rep_next hm, ints_append1, ints_append1]
    simp [ints, List.map_take, List.map_drop]
  rw [e]
  exact ⟨setRow_heap W g _ _ _ _ h.row, h.keep.then (F' := fun k => k = g) ⟨rfl, rfl, rfl, by simp, fun k _ hk => setRow_other W g k _ hk⟩ (fun i e => .inr (by have := h.low; omega)), h.low⟩
set_option maxRecDepth 100000 in
set_option maxHeartbeats 4000000 in
theorem repeat_any {w : World} {xb c : Nat} (hx : w.cell? ⟨xb, 0, none⟩ = some (.int .i64 (-1))) (hxl : xb < w.heap.size) (n : Nat) (hn : 1 ≤ n ∧ n ≤ 4) :
    Calls Try.prog 17 #[.slice (some ⟨xb, 0, none⟩) 1 c, .int .i64 n] w fun e w' => ∃ g, e = .returned (.slice (some ⟨g, 0, none⟩) n n) ∧ w'.heap[g]? = some (.cells (ints (List.replicate n (-1))).toArray 3 (0, 0)) ∧ w.heap.size ≤ g ∧ Keep (fun _ => False) w w' := by
  have HM := Lib.hid (fun W => mul_any W n hn)
  have hmk : ∀ W : World, (Instr.makeSlice 47 (.int .i64 (n : Int)) (.int .i64 (n : Int))).run Try.prog W = .ok (.slice (some ⟨W.heap.size, 0, none⟩) n n) (W.alloc (.cells (madeCells #[.int .i64 0] n) 3)) :=
    fun W => run_make_row' 47 3 (.int .i64 0) 8 Try.ints1.ht Try.ints1.info rfl .i64 .i64 n (by omega) (by omega) W
  have hw : IntKind.u64.wrap (n : Int) = n := by
    rcases (show n = 1 ∨ n = 2 ∨ n = 3 ∨ n = 4 by omega) with rfl | rfl | rfl | rfl <;> rfl
  have hgt : decide ((9223372036854775807 : Int) < (n : Int)) = false := decide_eq_false (by omega)
  have hlt0 : decide ((n : Int) < 0) = false := decide_eq_false (by omega)
  have hgt2 : ¬ (9223372036854775807 < n) := by omega
  have HX := Lib.hid (And.intro hx hxl)
  clear hx hxl
  go_enter Try.func17, Try.ntmps17
  go_wp2_with fail
  ((with_reducible refine (HM.out _).mono ?_); rintro e w' ⟨rfl, rfl⟩)
  clear HM
  go_wp2_with fail
  have R0 : RP w w.heap.size 0 n (w.alloc (.cells (madeCells #[.int .i64 0] n) 3)) := by
    refine ⟨?_, (Keep.refl (fun _ => False) w).alloc' _, Nat.le_refl _⟩
    have e : (ints (rep 0 n)).toArray = madeCells #[Value.int .i64 0] n := by
      apply Array.ext'
      rw [toList_madeCells_one]
      simp [rep, ints]
    rw [e]
    exact heap_alloc_new _ _
  obtain ⟨W1, hW⟩ : ∃ W1, w.alloc (.cells (madeCells #[.int .i64 0] n) 3) = W1 := ⟨_, rfl⟩
  obtain ⟨g, hg⟩ : ∃ g, w.heap.size = g := ⟨_, rfl⟩
  rw [hW] at R0
  rw [hg] at R0
  rw [hW, hg]
  have hx1 : W1.cell? ⟨xb, 0, none⟩ = some (.int .i64 (-1)) := cell_kept R0.keep HX.out.1 id
  have hc1 := run_copy_row (P := Try.prog) W1 47 47 3 3 g 0 n n ⟨xb, 0, none⟩ 1 c _ _ (ints [-1]) Try.ints1.ht (by kernel_rfl) R0.row (by show 1 = min 1 n; omega) (fun j v hv => by
    rcases j with _ | j
    · rw [Addr.add_lit]
      simp [ints] at hv
      rw [← hv]
      exact hx1
    · simp [ints] at hv) (by simp [ints, rep]; omega) (ints_one1 _)
  have R1 := R0.copied (m := 1) (new := ((ints (rep 0 n)).toArray.toList.take 0 ++ ints [-1] ++ (ints (rep 0 n)).toArray.toList.drop (0 + (ints [-1]).length)).toArray) (by omega) rfl
  obtain ⟨W2, hW2⟩ : ∃ W2, W1.setRow g ((ints (rep 0 n)).toArray.toList.take 0 ++ ints [-1] ++ (ints (rep 0 n)).toArray.toList.drop (0 + (ints [-1]).length)).toArray = W2 := ⟨_, rfl⟩
  rw [hW2] at hc1 R1
  rw [show (ints [-1]).length = 1 from rfl] at hc1
  have HR1 := Lib.hid R1
  clear hW hW2 hg R0 R1 hx1 hmk hw hgt hlt0 hgt2
  rw [hc1]
  go_wp2_with fail
  go_loopw [8] (fun i wr => ∃ k : Nat, (1 ≤ k ∧ k ≤ n) ∧ i = .int .i64 (k : Int) ∧ Hid (RP w g k n wr)) (fun i _ => n + 1 - (intOf i).toNat)
  case atStart => exact ⟨1, by omega, rfl, HR1⟩
  case round =>
    obtain ⟨k, hk, rfl, RR⟩ := hrel
    obtain ⟨wo, rfl⟩ : ∃ wo : World, wo = wr := ⟨_, rfl⟩
    clear HR1 hc1
    by_cases hlt : k < n
    · have hb : decide (k < n) = true := by simpa using hlt
      obtain ⟨m, hm⟩ : ∃ m, Nat.min k (n - k) = m := ⟨_, rfl⟩
      have hm1 : 1 ≤ m ∧ k + m ≤ n := by
        rw [← hm]
        show 1 ≤ min k (n - k) ∧ k + min k (n - k) ≤ n
        omega
      have hmk : m ≤ k := by
        rw [← hm]
        show min k (n - k) ≤ k
        omega
      have RD : RP w g k n wo.drew := ⟨RR.out.row, Keep.trans RR.out.keep (keep_draw _ wo), RR.out.low⟩
      have hcp := run_copy_row (P := Try.prog) wo.drew 47 47 3 3 g k (n - k) (n - k) ⟨g, 0, none⟩ k n _ _ (ints (List.replicate m (-1))) Try.ints1.ht (by kernel_rfl) RD.row (by simp [ints]; exact hm.symm) (fun j v hv => by
        have hjm : j < m := by have := (List.getElem?_eq_some_iff.1 hv).1; simpa [ints] using this
        rw [Addr.add_lit, Nat.zero_add, blk_cell RD.row, List.getElem?_toArray, rep_at (by omega)]
        rw [← hv]
        simp [ints, hjm]) (by simp [ints, rep]; omega) (ints_one1 _)
      have R2 := RD.copied (m := m) (new := ((ints (rep k n)).toArray.toList.take k ++ ints (List.replicate m (-1)) ++ (ints (rep k n)).toArray.toList.drop (k + (ints (List.replicate m (-1))).length)).toArray) hm1.2 (by simp [ints])
      obtain ⟨W3, hW3⟩ : ∃ W3, wo.drew.setRow g ((ints (rep k n)).toArray.toList.take k ++ ints (List.replicate m (-1)) ++ (ints (rep k n)).toArray.toList.drop (k + (ints (List.replicate m (-1))).length)).toArray = W3 := ⟨_, rfl⟩
      rw [hW3, show (ints (List.replicate m (-1))).length = m by simp [ints]] at hcp
      rw [hW3] at R2
      have HR2 := Lib.hid R2
      have h1 : (0 : Int) ≤ k := by omega
      have h2 : (k : Int) ≤ n := by omega
      have h3 : ¬ n = k := by omega
      have hwr : IntKind.i64.wrap ((k : Int) + (m : Int)) = ((k + m : Nat) : Int) := by
        rw [IntKind.wrap_i64]
        omega
      clear hW3 RD R2 hm
      go_wp2_with fail
      go_region_law (fail)
      all_goals go_wp2_with fail
      all_goals (
        try go_simp
        try simp only [Act.put, List.setIfInBounds_toArray, List.set_cons_zero, List.set_cons_succ, hwr]
        refine ⟨⟨k + m, by omega, by omega, HR2⟩, ?_⟩
        simp [intOf]
        omega)
    · have hb : decide (k < n) = false := by simpa using hlt
      obtain rfl : k = n := by omega
      go_wp2_with fail
      go_ret
      refine ⟨g, rfl, ?_, RR.out.low, RR.out.keep⟩
      have := RR.out.row
      rwa [show rep k k = List.replicate k (-1) by simp [rep]] at this
end Go.Proofs.Ytnhajhejkecihaa
