/- sanity answers true, and makes new memory alone. -/
import Derived.Test.YtbbeoeoengogpaaA2
import Derived.Test.YtbbeoeoengogpaaA3
import Derived.Test.YtbbeoeoengogpaaA5
namespace Go.Proofs.Ytbbeoeoengogpaa
open Go.RowKit
set_option linter.unusedVariables false

theorem ints_new (w : World) (xs : List Int) (h : xs.length ≤ 9223372036854775807) : IntsAt (w.alloc (.cells (xs.map (Value.int .i64)).toArray 3)) (some ⟨w.heap.size, 0, none⟩) xs.length xs := by
  have := cells_new w (ints xs) 3 (by rw [ints_length]; exact h)
  rwa [ints_length] at this

theorem ints_new_at (w : World) (xs : List Int) (b : Nat) (hb : b = w.heap.size) (h : xs.length ≤ 9223372036854775807) : IntsAt (w.alloc (.cells (xs.map (Value.int .i64)).toArray 3)) (some ⟨b, 0, none⟩) xs.length xs := by
  subst hb
  exact ints_new w xs h

theorem spend_57 (A : Option Addr) (c : Nat) (w : World) (h : IntsAt w A 2 [5, 7]) (ha : A = none → 2 = 0 ∧ c = 0) :
    Calls Try.prog 13 #[.slice A 2 c, .int .i64 1, .int .i64 3] w fun e w' => ∃ v, e = .returned (.tuple #[v, .bool true]) ∧ w'.ownsRow w.heap.size 3 1 v 2 (ints [5, 4]) ∧ Below w.heap.size w w' :=
  spend_yes A 2 c [5, 7] 1 3 w h ha (by omega) (by decide) (by decide)

theorem spend_57_no (A : Option Addr) (c : Nat) (w : World) (h : IntsAt w A 2 [5, 7]) :
    Calls Try.prog 13 #[.slice A 2 c, .int .i64 0, .int .i64 6] w fun e w' => e = .returned (.tuple #[.slice none 0 0, .bool false]) ∧ w = w' :=
  spend_no A 2 c [5, 7] 0 6 w h (by decide)

theorem ents_one (w : World) (e : Ent) (h : e.IL ≤ 1000000000000000) : EntsAt (w.alloc (.cells e.cells.toArray 56)) (some ⟨w.heap.size, 0, none⟩) 1 [e] := by
  refine ⟨rfl, by omega, by simpa using h, fun _ => ⟨w.heap.size, 0, rfl, by simp, fun j hj i hi => ?_⟩⟩
  obtain rfl : j = 0 := by omega
  rw [World.cell?_of_block (w' := w.alloc (.cells e.cells.toArray 56)) rfl]
  simp only [World.cell?, heap_alloc_new, Nat.zero_mul, Nat.zero_add]
  rcases i with _ | _ | _ | _ | _ | _ | _ | i
  all_goals first | rfl | omega

theorem sums_one (IA : Option Addr) (W : World) (b : Nat) (hb : b = W.heap.size) :
    Calls Try.prog 25 #[.slice (some ⟨b, 0, none⟩) 1 1, .int .i64 2] (W.alloc (.cells #[.int .i64 1, .int .i64 1, .int .i64 0, .int .i64 0, .int .i64 1, .slice none 0 0, .slice IA 2 2] 56)) fun e w' =>
      ∃ v, e = .returned v ∧ w'.ownsRow (W.heap.size + 1) 3 1 v 2 (ints [0, 32]) ∧ Below W.heap.size W w' := by
  subst hb
  have h := sums_any (some ⟨W.heap.size, 0, none⟩) 1 1 [⟨1, 1, 0, 0, 1, none, 0, 0, IA, 2, 2⟩] 2 _ (ents_one W ⟨1, 1, 0, 0, 1, none, 0, 0, IA, 2, 2⟩ (by simp)) (by intro b off h; cases h; simp) (by omega) (by omega)
  have e : accs 2 ([(⟨1, 1, 0, 0, 1, none, 0, 0, IA, 2, 2⟩ : Ent)].map Ent.pair) = [0, 32] := by
    simp [accs, Ent.pair, Ent.size, upd, wrap64]
  rw [e] at h
  refine h.mono fun e w' ⟨v, he, ho, hb⟩ => ⟨v, he, by simpa using ho, below_then (below_alloc _) hb⟩

theorem equal_yes (A1 A2 : Option Addr) (n c1 c2 : Nat) (xs : List Int) (w : World) (h1 : IntsAt w A1 n xs) (h2 : IntsAt w A2 n xs) :
    Calls Try.prog 15 #[.slice A1 n c1, .slice A2 n c2] w fun e w' => e = .returned (.bool true) ∧ ∃ k, w' = w.drewN k := by
  simpa using equal_same A1 A2 n c1 c2 xs xs w h1 h2
set_option maxRecDepth 100000 in
theorem sanity_any (w : World) : Calls Try.prog 11 #[] w fun e w' => e = .returned (.bool true) ∧ Below w.heap.size w w' := by
  have hmk : ∀ w, (Instr.makeSlice 52 (.int .i64 2) (.int .i64 2)).run Try.prog w = .ok (.slice (some ⟨w.heap.size, 0, none⟩) 2 2) (w.alloc (.cells #[.int .i64 0, .int .i64 0, .string ByteArray.empty, .int .i64 0, .int .i64 0, .string ByteArray.empty] 75)) := fun _ => by kernel_rfl
  go_enter Try.func11, Try.ntmps11
  go_wp2_with fail
  refine (spend_57 _ _ _ (ints_new _ [5, 7] (by simp)) (fun h => by cases h)).mono ?_
  rintro e w1 ⟨v1, rfl, hown1, hb1⟩
  obtain ⟨A1, c1, rfl, hi1⟩ := owns_cells hown1
  have hb1' : Below w.heap.size w w1 := below_then (below_alloc _) hb1
  clear hown1 hb1
  go_wp2_with fail
  refine (spend_57_no _ _ _ (ints_new _ [5, 7] (by simp))).mono ?_
  rintro e w2 ⟨rfl, rfl⟩
  go_wp2_with (first | (go_at_call 16; go_in) | (go_at_call 18; go_in) | (go_at_call 20; go_in))
  refine (sums_one _ _ _ (by simp)).mono ?_
  rintro e w3 ⟨v3, rfl, hown3, hb3⟩
  obtain ⟨A3, c3, rfl, hi3⟩ := owns_cells hown3
  have hb3' : Below w1.heap.size w1 w3 := below_then (below_then (below_alloc _) (below_alloc _)) hb3
  have hi1' := hi1.below hb3'
  clear hown3 hb3 hi1
  go_wp2_with (first | (go_at_call 20; go_in))
  refine (equal_yes _ _ _ _ _ [5, 4] _ (hi1'.alloc _) (ints_new _ [5, 4] (by simp))).mono ?_
  rintro e w4 ⟨rfl, k4, rfl⟩
  go_wp2_with (first | (go_at_call 20; go_in))
  refine (equal_yes _ _ _ _ _ [0, 32] _ (((hi3.alloc _).alloc _).drewN k4) ((ints_new_at _ [0, 32] _ (by simp) (by simp)).drewN k4)).mono ?_
  rintro e w5 ⟨rfl, k5, rfl⟩
  go_wp2_with fail
  go_ret
  have hle : w.heap.size ≤ w3.heap.size := Nat.le_trans hb1'.size hb3'.size
  exact ⟨rfl, below_drewN (((hb1'.trans (hb3'.mono hb1'.size)).alloc hle _).alloc (by simp; omega) _) _⟩
end Go.Proofs.Ytbbeoeoengogpaa
