/- account.all of ints within limits; the reference's numbers. -/
import Derived.Test.YtbbeoeoengogpaaW2
import Derived.Test.YtbbeoeoengogpaaW0
namespace Go.Proofs.Ytbbeoeoengogpaa
open Go.RowKit Go.Lib
set_option linter.unusedVariables false

def inR (lo hi x : Int) : Bool := decide (lo ≤ x) && decide (x ≤ hi)
theorem within_fn (x lo hi : Int) (B C : Nat) (w : World) (h1 : w.cell? ⟨B, 0, none⟩ = some (.int .i64 lo)) (h2 : w.cell? ⟨C, 0, none⟩ = some (.int .i64 hi)) :
    Calls Try.prog 54 #[.int .i64 x, .pointer (some ⟨B, 0, none⟩), .pointer (some ⟨C, 0, none⟩)] w fun e w' => e = .returned (.bool (inR lo hi x)) ∧ w = w' := by
  unfold inR
  cases hd : decide (lo ≤ x) with
  | true =>
    go_enter Try.func54, Try.ntmps54
    go_wp2
    go_ret
    exact ⟨rfl, rfl⟩
  | false =>
    go_enter Try.func54, Try.ntmps54
    go_wp2
    go_ret
    exact ⟨rfl, rfl⟩
/-- The closure that all makes of a condition: not within. -/
theorem nwithin_fn (x lo hi : Int) (B C D : Nat) (w : World) (h1 : w.cell? ⟨B, 0, none⟩ = some (.int .i64 lo)) (h2 : w.cell? ⟨C, 0, none⟩ = some (.int .i64 hi))
    (h3 : w.cell? ⟨D, 0, none⟩ = some (.func (.func 54) #[] #[.pointer (some ⟨B, 0, none⟩), .pointer (some ⟨C, 0, none⟩)])) :
    Calls Try.prog 53 #[.int .i64 x, .pointer (some ⟨D, 0, none⟩)] w fun e w' => e = .returned (.bool (!inR lo hi x)) ∧ w = w' := by
  have HW := Lib.hid (within_fn x lo hi B C w h1 h2)
  clear h1 h2
  go_enter Try.func53, Try.ntmps53
  go_wp2_with fail
  ((with_reducible refine HW.out.mono ?_); rintro e w' ⟨rfl, rfl⟩)
  go_wp2_with fail
  go_ret
  exact ⟨rfl, rfl⟩
def allR (lo hi : Int) (xs : List Int) : Bool := xs.all (inR lo hi)
theorem allR_yes {lo hi : Int} {xs : List Int} (h : ∀ j, j < xs.length → inR lo hi (xs.getD j 0) = true) : allR lo hi xs = true := by
  unfold allR
  rw [List.all_eq_true]
  intro x hx
  obtain ⟨j, hj, rfl⟩ := List.getElem_of_mem hx
  have := h j hj
  rwa [List.getD_eq_getElem?_getD, List.getElem?_eq_getElem hj] at this
theorem allR_no {lo hi : Int} {xs : List Int} {j : Nat} (hj : j < xs.length) (h : inR lo hi (xs.getD j 0) = false) : allR lo hi xs = false := by
  unfold allR
  rw [List.all_eq_false]
  exact ⟨_, getD_mem hj, by rw [h]; decide⟩
set_option maxHeartbeats 1000000 in
theorem idx_within {w : World} {A : Option Addr} {n : Nat} {xs : List Int} (h : IntsAt w A n xs) (c : Nat) (lo hi : Int) (B C D : Nat) (h1 : w.cell? ⟨B, 0, none⟩ = some (.int .i64 lo)) (h2 : w.cell? ⟨C, 0, none⟩ = some (.int .i64 hi))
    (h3 : w.cell? ⟨D, 0, none⟩ = some (.func (.func 54) #[] #[.pointer (some ⟨B, 0, none⟩), .pointer (some ⟨C, 0, none⟩)])) :
    Calls Try.prog 59 #[.slice A n c, (.func (.func 53) #[] #[.pointer (some ⟨D, 0, none⟩)])] w fun e w' => ∃ r : Int, e = .returned (.int .i64 r) ∧ decide (0 ≤ r) = !allR lo hi xs ∧ w = w' := by
  have hn := h.bound
  have hl := h.length
  have H := Lib.hid h
  have HP := fun x => Lib.hid (nwithin_fn x lo hi B C D w h1 h2 h3)
  have HL := Lib.hid hl
  clear h hl h1 h2 h3
  go_enter Try.func59, Try.ntmps59
  go_wp2_with fail
  go_loop [8] (fun i => ∃ j : Nat, j ≤ n ∧ i = .int .i64 (j : Int) ∧ ∀ t, t < j → inR lo hi (xs.getD t 0) = true) (fun i => n + 1 - (intOf i).toNat)
  case atStart => exact ⟨0, Nat.zero_le _, rfl, fun t ht => absurd ht (by omega)⟩
  case round =>
    obtain ⟨j, hj, rfl, hall⟩ := hrel
    have HA := Lib.hid hall
    clear hall
    by_cases hjn : j < n
    · obtain ⟨b, off, rfl, q1⟩ := IntsAt.at_ H.out j hjn
      have hb : decide (j < n) = true := by simpa using hjn
      obtain ⟨a, ha⟩ : ∃ a, xs.getD j 0 = a := ⟨_, rfl⟩
      rw [ha] at q1
      have HX := Lib.hid ha
      have HPa := HP a
      clear ha
      cases hin : inR lo hi a with
      | true =>
        rw [hin] at HPa
        have HN := Lib.hid (show ∀ t, t < j + 1 → inR lo hi (xs.getD t 0) = true from fun t ht => by
          by_cases htj : t < j
          · exact HA.out t htj
          · obtain rfl : t = j := by omega
            rw [HX.out]
            exact hin)
        clear hin
        go_wp2_with fail
        ((with_reducible refine HPa.out.mono ?_); rintro e w' ⟨rfl, rfl⟩)
        go_wp2_with fail
        exact ⟨⟨j + 1, by omega, by go_num, HN.out⟩, by simp [intOf]; omega⟩
      | false =>
        rw [hin] at HPa
        have HN := Lib.hid (allR_no (by rw [HL.out]; exact hjn) (by rw [HX.out]; exact hin))
        clear hin
        go_wp2_with fail
        ((with_reducible refine HPa.out.mono ?_); rintro e w' ⟨rfl, rfl⟩)
        go_wp2_with fail
        go_ret
        exact ⟨_, rfl, by rw [HN.out]; simp, rfl⟩
    · have hb : decide (j < n) = false := by simpa using hjn
      have HN := Lib.hid (allR_yes (lo := lo) (hi := hi) (xs := xs) (fun t ht => HA.out t (by rw [HL.out] at ht; omega)))
      go_wp2_with fail
      go_ret
      exact ⟨_, rfl, by rw [HN.out]; rfl, rfl⟩
theorem contains_within {w : World} {A : Option Addr} {n : Nat} {xs : List Int} (h : IntsAt w A n xs) (c : Nat) (lo hi : Int) (B C D : Nat) (h1 : w.cell? ⟨B, 0, none⟩ = some (.int .i64 lo)) (h2 : w.cell? ⟨C, 0, none⟩ = some (.int .i64 hi))
    (h3 : w.cell? ⟨D, 0, none⟩ = some (.func (.func 54) #[] #[.pointer (some ⟨B, 0, none⟩), .pointer (some ⟨C, 0, none⟩)])) :
    Calls Try.prog 52 #[.slice A n c, (.func (.func 53) #[] #[.pointer (some ⟨D, 0, none⟩)])] w fun e w' => e = .returned (.bool (!allR lo hi xs)) ∧ w = w' := by
  have HI := Lib.hid (idx_within h c lo hi B C D h1 h2 h3)
  clear h h1 h2 h3
  go_enter Try.func52, Try.ntmps52
  go_wp2_with fail
  ((with_reducible refine HI.out.mono ?_); rintro e w' ⟨r, rfl, hr, rfl⟩)
  have HR := Lib.hid hr
  clear hr
  go_wp2_with fail
  go_ret
  exact ⟨by rw [← HR.out]; rfl, rfl⟩
/-- all(xs, most, within(lo, hi)). -/
theorem all_within {w : World} {A : Option Addr} {n : Nat} {xs : List Int} (h : IntsAt w A n xs) (c : Nat) (most lo hi : Int) (B C : Nat) (h1 : w.cell? ⟨B, 0, none⟩ = some (.int .i64 lo)) (h2 : w.cell? ⟨C, 0, none⟩ = some (.int .i64 hi)) :
    Calls Try.prog 41 #[.slice A n c, .int .i64 most, (.func (.func 54) #[] #[.pointer (some ⟨B, 0, none⟩), .pointer (some ⟨C, 0, none⟩)])] w fun e w' => e = .returned (.bool (decide ((n : Int) ≤ most) && allR lo hi xs)) ∧ Keep (fun _ => False) w w' := by
  have hk := (Keep.refl (fun _ => False) w).alloc' (.cells #[.func (.func 54) #[] #[.pointer (some ⟨B, 0, none⟩), .pointer (some ⟨C, 0, none⟩)]] 88)
  have HK := Lib.hid hk
  have HC := Lib.hid (contains_within (h.alloc _) c lo hi B C w.heap.size (cell_kept hk h1 id) (cell_kept hk h2 id) (blk_cell (heap_alloc_new w _) 0))
  clear h h1 h2 hk
  cases hd : decide ((n : Int) ≤ most) with
  | true =>
    go_enter Try.func41, Try.ntmps41
    go_wp2_with fail
    ((with_reducible refine HC.out.mono ?_); rintro e w' ⟨rfl, rfl⟩)
    go_wp2_with fail
    go_ret
    exact ⟨by simp, HK.out⟩
  | false =>
    go_enter Try.func41, Try.ntmps41
    go_wp2_with fail
    go_ret
    exact ⟨rfl, HK.out⟩
end Go.Proofs.Ytbbeoeoengogpaa
