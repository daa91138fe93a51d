/- Contracts of the small functions: slices.Clone, slices.Equal, account.Spend and its reference. -/
import Derived.Test.YtbbeoeoengogpaaRows
import Derived.Test.YtbbeoeoengogpaaA0
namespace Go.Proofs.Ytbbeoeoengogpaa
open Go.RowKit

theorem Try.ints : OneTy Try.prog 22 3 (.int .i64 0) 8 := ⟨Try.underlying22, by kernel_rfl, rfl⟩

/-! ### slices.Equal -/
theorem equal_ne (A1 A2 : Option Addr) (n1 c1 n2 c2 : Nat) (w : World) (h : ((n1 : Int) != (n2 : Int)) = true) :
    Calls Try.prog 15 #[.slice A1 n1 c1, .slice A2 n2 c2] w fun e w' => e = .returned (.bool false) ∧ ∃ k, w' = w.drewN k := by
  go_enter Try.func15, Try.ntmps15
  go_wp2
  go_ret
  exact ⟨rfl, 0, rfl⟩

def Pre (xs ys : List Int) (k : Nat) : Prop := ∀ j, j < k → xs.getD j 0 = ys.getD j 0
theorem Pre.zero (xs ys : List Int) : Pre xs ys 0 := fun j h => absurd h (by omega)
theorem Pre.succ {xs ys : List Int} {k : Nat} (h : Pre xs ys k) (e : xs.getD k 0 = ys.getD k 0) : Pre xs ys (k + 1) := fun j hj => by
  rcases Nat.lt_succ_iff_lt_or_eq.1 hj with h1 | rfl
  · exact h j h1
  · exact e
theorem Pre.all {xs ys : List Int} {n : Nat} (h : Pre xs ys n) (h1 : xs.length = n) (h2 : ys.length = n) : xs = ys := by
  apply List.ext_getElem (by omega)
  intro i hi hi'
  have := h i (by omega)
  simpa [List.getD_eq_getElem?_getD, List.getElem?_eq_getElem hi, List.getElem?_eq_getElem hi'] using this

theorem equal_same (A1 A2 : Option Addr) (n c1 c2 : Nat) (xs ys : List Int) (w : World) (h1 : IntsAt w A1 n xs) (h2 : IntsAt w A2 n ys) :
    Calls Try.prog 15 #[.slice A1 n c1, .slice A2 n c2] w fun e w' => e = .returned (.bool (decide (xs = ys))) ∧ ∃ k, w' = w.drewN k := by
  have hn := h1.bound
  have H1 := Lib.hid h1; clear h1
  have H2 := Lib.hid h2; clear h2
  have hend : ∀ k : Nat, Pre xs ys k → (k < n → xs.getD k 0 ≠ ys.getD k 0) → k ≤ n → decide (xs = ys) = decide (k = n) := by
    intro k hp hne hk
    by_cases hkn : k = n
    · subst hkn
      simp [hp.all H1.out.length H2.out.length]
    · have := hne (by omega)
      have hne' : xs ≠ ys := fun e => this (by rw [e])
      simp [hkn, hne']
  have HE := Lib.hid hend; clear hend
  go_enter Try.func15, Try.ntmps15
  go_wp2
  go_loopw [13] (fun i wr => ∃ k : Nat, k ≤ n ∧ i = .int .i64 k ∧ (∃ q, wr = w.drewN q) ∧ Pre xs ys k) (fun i _ => n - (intOf i).toNat)
  case atStart => exact ⟨0, by omega, rfl, ⟨0, rfl⟩, Pre.zero _ _⟩
  case round =>
    obtain ⟨k, hk, rfl, ⟨q, rfl⟩, hpre⟩ := hrel
    have HP := Lib.hid hpre; clear hpre
    by_cases hlt : k < n
    · obtain ⟨e1, o1, rfl, g1⟩ := IntsAt.at_ H1.out k hlt
      obtain ⟨e2, o2, rfl, g2⟩ := IntsAt.at_ H2.out k hlt
      by_cases hx : xs.getD k 0 = ys.getD k 0
      · have hb : (xs[k]?.getD 0 != ys[k]?.getD 0) = false := by simpa [List.getD_eq_getElem?_getD] using hx
        have HX := Lib.hid hx; clear hx
        go_wp2
        go_quiet (fail)
        go_wp2
        go_roundw
        case rel => exact ⟨k + 1, by omega, by go_num, ⟨_, rfl⟩, HP.out.succ HX.out⟩
        case measure => simp [intOf]; omega
      · have hb : (xs[k]?.getD 0 != ys[k]?.getD 0) = true := by simpa [List.getD_eq_getElem?_getD] using hx
        have HX := Lib.hid hx; clear hx
        go_wp2
        go_quiet (fail)
        go_wp2
        go_ret
        refine ⟨?_, _, World.drewN_drewN ..⟩
        rw [HE.out k HP.out (fun _ => HX.out) hk]
        simp [Nat.ne_of_lt hlt]
    · obtain rfl : k = n := by omega
      go_wp2
      go_ret
      refine ⟨?_, _, rfl⟩
      rw [HE.out k HP.out (fun h => absurd h (by omega)) hk]
      simp

theorem equal_any (A1 A2 : Option Addr) (n1 n2 c1 c2 : Nat) (xs ys : List Int) (w : World) (h1 : IntsAt w A1 n1 xs) (h2 : IntsAt w A2 n2 ys) :
    Calls Try.prog 15 #[.slice A1 n1 c1, .slice A2 n2 c2] w fun e w' => e = .returned (.bool (decide (xs = ys))) ∧ ∃ k, w' = w.drewN k := by
  by_cases h : n1 = n2
  · subst h
    exact equal_same A1 A2 n1 c1 c2 xs ys w h1 h2
  · have hne : xs ≠ ys := fun e => h (by rw [← h1.length, ← h2.length, e])
    simp only [hne, decide_false]
    exact equal_ne A1 A2 n1 c1 n2 c2 w (by simpa using (by omega : (n1 : Int) ≠ n2))

/-! ### slices.Clone -/
theorem clone_any (A : Option Addr) (n c : Nat) (xs : List Int) (w : World) (h : IntsAt w A n xs) (hnil : A = none → n = 0 ∧ c = 0) (hn : n * 8 ≤ 140737488351232) :
    Calls Try.prog 12 #[.slice A n c] w fun e w' => ∃ v, e = .returned v ∧ w'.ownsRow w.heap.size 3 1 v n (ints xs) ∧ Below w.heap.size w w' := by
  have H := Lib.hid h; clear h
  cases A with
  | none =>
    obtain ⟨rfl, rfl⟩ := hnil rfl
    obtain rfl : xs = [] := List.eq_nil_of_length_eq_zero H.out.length
    have hq := fun w => Lib.run_eql_slice_nil (P := Try.prog) w 22 3 none 0 0 0 0 Try.underlying22
    go_enter Try.func12, Try.ntmps12
    go_wp2
    go_ret
    exact ⟨_, rfl, World.ownsRow_nil _ _ _ _, Below.refl _ _⟩
  | some ad =>
    have HN := Lib.hid hnil; clear hnil
    have hq := fun w => Lib.run_eql_slice_nil (P := Try.prog) w 22 3 (some ad) n c 0 0 Try.underlying22
    go_enter Try.func12, Try.ntmps12
    go_wp2_with (at_builtin; refine wpList_append_src 22 3 _ 8 w.heap.size Try.ints _ _ rfl rfl _ 0 [] rfl (by exact own_new w 3 #[] 0 _ rfl (by omega) (by omega)) _ n c (ints xs) rfl ?_ ?_ (ints_one xs) ?_ (by decide) ?_ ?_)
    · intro h; cases h
    · exact H.out.alloc _
    · omega
    · simp
    · intro v' w' hown hg hnil hblk
      go_wp2
      go_ret
      refine ⟨v', rfl, by simpa using hown, ?_⟩
      exact (below_alloc _).grown hg (by simp) (by simp [Value.ownBlock])

/-! ### account.Spend -/
def spends (xs : List Int) (t n : Int) : Bool := decide (0 ≤ t) && decide (t < xs.length) && decide (0 ≤ n) && decide (n ≤ xs.getD t.toNat 0)
def spent (xs : List Int) (t n : Int) : List Int := xs.set t.toNat (xs.getD t.toNat 0 - n)

theorem spend_no (A : Option Addr) (n c : Nat) (xs : List Int) (t m : Int) (w : World) (h : IntsAt w A n xs) (hno : spends xs t m = false) :
    Calls Try.prog 13 #[.slice A n c, .int .i64 t, .int .i64 m] w fun e w' => e = .returned (.tuple #[.slice none 0 0, .bool false]) ∧ w = w' := by
  have hl := h.length
  have hb := h.bound
  have H := Lib.hid h; clear h
  have HN := Lib.hid hno; clear hno
  have HL := Lib.hid hl; clear hl
  by_cases h1 : t < 0
  · go_enter Try.func13, Try.ntmps13
    go_wp2_with fail
    go_ret2
    exact ⟨rfl, rfl⟩
  · by_cases h2 : t < n
    · have g1 : decide (t < 0) = false := by simp; omega
      have g2 : decide ((n : Int) ≤ t) = false := by simp; omega
      by_cases h3 : m < 0
      · go_enter Try.func13, Try.ntmps13
        go_wp2_with fail
        go_ret2
        exact ⟨rfl, rfl⟩
      · have g3 : decide (m < 0) = false := by simp; omega
        obtain ⟨b, off, rfl, hc⟩ := IntsAt.at_ H.out t.toNat (by omega)
        have g4 : decide (xs[t.toNat]?.getD 0 < m) = true := by
          have := HN.out
          simp only [spends, HL.out, Bool.and_eq_false_iff, decide_eq_false_iff_not, List.getD_eq_getElem?_getD] at this
          simp only [decide_eq_true_eq]
          omega
        go_enter Try.func13, Try.ntmps13
        go_wp2_with fail
        go_ret2
        exact ⟨rfl, rfl⟩
    · have g1 : decide (t < 0) = false := by simp; omega
      go_enter Try.func13, Try.ntmps13
      go_wp2_with fail
      go_ret2
      exact ⟨rfl, rfl⟩

/-- A store into an owned row of ints. -/
theorem own_set {w : World} {base g n cap : Nat} {xs : List Int} (h : w.ownsRow base 3 1 (.slice (some ⟨g, 0, none⟩) n cap) n (ints xs)) (j : Nat) (u : Int) :
    (w.setCell ⟨g, j, none⟩ (.int .i64 u)).ownsRow base 3 1 (.slice (some ⟨g, 0, none⟩) n cap) n (ints (xs.set j u)) := by
  have := h.stored j (.int .i64 u)
  rw [ints_set] at this
  exact this.1
theorem own_form {w : World} {base n : Nat} {v : Value} {xs : List Value} (h : w.ownsRow base 3 1 v n xs) (hn : 0 < n) :
    ∃ g cap, v = .slice (some ⟨g, 0, none⟩) n cap ∧ base ≤ g ∧ g < w.heap.size := by
  obtain ⟨_, h0 | ⟨g, cap, cur, rfl, hg, hh, _⟩⟩ := h
  · omega
  · exact ⟨g, cap, rfl, hg, (Array.getElem?_eq_some_iff.1 hh).1⟩
theorem own_cell {w : World} {base g n cap : Nat} {xs : List Int} (h : w.ownsRow base 3 1 (.slice (some ⟨g, 0, none⟩) n cap) n (ints xs)) (j : Nat) (hj : j < n) :
    w.cell? ⟨g, j, none⟩ = some (.int .i64 (xs.getD j 0)) := by
  have hl : (ints xs).length = n := by have := h.1; simpa using this
  rw [h.cellAt j (by omega), List.getElem?_eq_getElem (by omega)]
  have := ints_getD xs j (by rw [ints_length] at hl; omega)
  rw [List.getD_eq_getElem?_getD, List.getElem?_eq_getElem (by omega)] at this
  simpa using this

theorem spend_yes (A : Option Addr) (n c : Nat) (xs : List Int) (t m : Int) (w : World) (h : IntsAt w A n xs) (hnil : A = none → n = 0 ∧ c = 0) (hn : n * 8 ≤ 140737488351232)
    (hw : ∀ x ∈ xs, x ≤ 9223372036854775807) (hyes : spends xs t m = true) :
    Calls Try.prog 13 #[.slice A n c, .int .i64 t, .int .i64 m] w fun e w' => ∃ v, e = .returned (.tuple #[v, .bool true]) ∧ w'.ownsRow w.heap.size 3 1 v n (ints (spent xs t m)) ∧ Below w.heap.size w w' := by
  have hl := h.length
  simp only [spends, Bool.and_eq_true, decide_eq_true_eq, hl] at hyes
  obtain ⟨⟨⟨t0, t1⟩, m0⟩, mx⟩ := hyes
  have hx : xs.getD t.toNat 0 ≤ 9223372036854775807 := by
    have : t.toNat < xs.length := by omega
    simp only [List.getD_eq_getElem?_getD, List.getElem?_eq_getElem this]
    exact hw _ (List.getElem_mem _)
  obtain ⟨k, rfl⟩ := Int.eq_ofNat_of_zero_le t0
  have hk : k < n := by simpa using t1
  have HC := Lib.hid (fun w1 (hb : Below w.heap.size w w1) => clone_any A n c xs w1 (h.below hb) hnil hn)
  obtain ⟨b, off, rfl, hc⟩ := IntsAt.at_ h k hk
  have hbnd := h.bound
  have HL := Lib.hid hl; clear hl h hnil
  have g1 : decide ((k : Int) < 0) = false := by simp
  have g2 : decide ((n : Int) ≤ k) = false := by simp; omega
  have g3 : decide (m < 0) = false := by simp; omega
  simp only [Int.toNat_natCast, List.getD_eq_getElem?_getD] at mx hx
  have g4 : decide (xs[k]?.getD 0 < m) = false := by simp; omega
  go_enter Try.func13, Try.ntmps13
  go_wp2_with fail
  refine (HC.out _ (Below.refl _ _)).mono ?_
  rintro e w1 ⟨v, rfl, hown, hb⟩
  obtain ⟨g, cap, rfl, hg, hgs⟩ := own_form hown (by omega)
  have hcell := own_cell hown k hk
  have hfr := hown.frozenAt k
  have HO := Lib.hid hown; clear hown
  simp only [List.getD_eq_getElem?_getD] at hcell
  go_wp2_with fail
  go_ret2
  refine ⟨_, rfl, ?_, hb.setCell hg _⟩
  simpa [spent] using own_set HO.out k (xs.getD k 0 - m)
end Go.Proofs.Ytbbeoeoengogpaa
