/- The reference's numbers; what makes a world right. -/
import Derived.Test.YtbbeoeoengogpaaW4
namespace Go.Proofs.Ytbbeoeoengogpaa
open Go.RowKit Go.Lib
set_option linter.unusedVariables false

theorem withinf_any (lo hi : Int) (w : World) : Calls Try.prog 42 #[.int .i64 lo, .int .i64 hi] w fun e w' => ∃ B C : Nat, e = .returned (.func (.func 54) #[] #[.pointer (some ⟨B, 0, none⟩), .pointer (some ⟨C, 0, none⟩)]) ∧ w'.cell? ⟨B, 0, none⟩ = some (.int .i64 lo) ∧ w'.cell? ⟨C, 0, none⟩ = some (.int .i64 hi) ∧ Keep (fun _ => False) w w' := by
  have hk := (Keep.refl (fun _ => False) w).alloc' (.cells #[.int .i64 lo] 3)
  have hk2 := hk.alloc' (.cells #[.int .i64 hi] 3)
  have c1 := blk_cell (heap_alloc_new w (.cells #[.int .i64 lo] 3)) 0
  have c2 := blk_cell (heap_alloc_new (w.alloc (.cells #[.int .i64 lo] 3)) (.cells #[.int .i64 hi] 3)) 0
  have c3 := cell_kept ((Keep.refl (fun _ => False) (w.alloc (.cells #[.int .i64 lo] 3))).alloc' (.cells #[.int .i64 hi] 3)) c1 id
  have HA := Lib.hid (And.intro c3 (And.intro c2 hk2))
  clear hk hk2 c1 c2 c3
  go_enter Try.func42, Try.ntmps42
  go_wp2_with fail
  go_ret
  exact ⟨w.heap.size, (w.alloc (.cells #[.int .i64 lo] 3)).heap.size, by simp, HA.out.1, HA.out.2.1, HA.out.2.2⟩
set_option maxHeartbeats 1000000 in
theorem numbers_any {w : World} {A : Option Addr} {n : Nat} {xs : List Int} (h : IntsAt w A n xs) (c : Nat) (most lo hi : Int) :
    Calls Try.prog 44 #[.slice A n c, .int .i64 most, .int .i64 lo, .int .i64 hi] w fun e w' => e = .returned (.bool (decide ((n : Int) ≤ most) && allR lo hi xs)) ∧ w = w' := by
  have hn := h.bound
  have hl := h.length
  have H := Lib.hid h
  have HL := Lib.hid hl
  clear h hl
  go_enter Try.func44, Try.ntmps44
  go_wp2_with fail
  go_loop [9] (fun i => ∃ j : Nat, j ≤ n ∧ i = .int .i64 (j : Int) ∧ Hid (∀ t, t < j → inR lo hi (xs.getD t 0) = true)) (fun i => n + 1 - (intOf i).toNat)
  case atStart => exact ⟨0, Nat.zero_le _, rfl, Lib.hid (fun t ht => absurd ht (by omega))⟩
  case round =>
    obtain ⟨j, hj, rfl, HA⟩ := hrel
    by_cases hjn : j < n
    · obtain ⟨b, off, rfl, q1⟩ := IntsAt.at_ H.out j hjn
      have hb : decide (j < n) = true := by simpa using hjn
      obtain ⟨a, ha⟩ : ∃ a, xs.getD j 0 = a := ⟨_, rfl⟩
      rw [ha] at q1
      have HX := Lib.hid ha
      clear ha
      by_cases h1 : a < lo
      · have hd : decide (a < lo) = true := by simpa using h1
        have HN := Lib.hid (allR_no (lo := lo) (hi := hi) (by rw [HL.out]; exact hjn) (by rw [HX.out]; simp [inR]; omega))
        go_wp2_with fail
        go_ret
        exact ⟨by rw [HN.out]; simp, rfl⟩
      · have hd : decide (a < lo) = false := by simpa using h1
        by_cases h2 : hi < a
        · have hd2 : decide (hi < a) = true := by simpa using h2
          have HN := Lib.hid (allR_no (lo := lo) (hi := hi) (by rw [HL.out]; exact hjn) (by rw [HX.out]; simp [inR]; omega))
          go_wp2_with fail
          go_ret
          exact ⟨by rw [HN.out]; simp, rfl⟩
        · have hd2 : decide (hi < a) = false := by simpa using h2
          have HN := Lib.hid (show ∀ t, t < j + 1 → inR lo hi (xs.getD t 0) = true from fun t ht => by
            by_cases htj : t < j
            · exact HA.out t htj
            · obtain rfl : t = j := by omega
              rw [HX.out]
              simp [inR]; omega)
          go_wp2_with fail
          exact ⟨⟨j + 1, by omega, by go_num, HN⟩, by simp [intOf]; omega⟩
    · have hb : decide (j < n) = false := by simpa using hjn
      have HN := Lib.hid (allR_yes (lo := lo) (hi := hi) (xs := xs) (fun t ht => HA.out t (by rw [HL.out] at ht; omega)))
      go_wp2_with fail
      go_ret
      exact ⟨by rw [HN.out, Bool.and_true]; rfl, rfl⟩

/-- A world's parts. -/
structure WD where
  ins : List Val
  clocks : List Int
  choices : List Int
  fuel : List Int
  limit : List Int
  epoch : Int
structure WS where
  (A0 : Option Addr) (c0 : Nat) (A1 : Option Addr) (c1 : Nat) (A2 : Option Addr) (c2 : Nat) (A3 : Option Addr) (c3 : Nat) (A4 : Option Addr) (c4 : Nat)
def wcells (d : WD) (s : WS) : List Value := [.slice s.A0 d.ins.length s.c0, .slice s.A1 d.clocks.length s.c1, .slice s.A2 d.choices.length s.c2, .slice s.A3 d.fuel.length s.c3, .slice s.A4 d.limit.length s.c4, .int .i64 d.epoch]
def IRow (W : World) (A : Option Addr) (n c : Nat) (xs : List Int) : Prop := ∃ base, W.ownsRow base 3 1 (.slice A n c) n (ints xs)
theorem IRow.since {W W' : World} {A : Option Addr} {n c : Nat} {xs : List Int} (h : IRow W A n c xs) (hk : Since W.heap.size W W') : IRow W' A n c xs := let ⟨b, ho⟩ := h; ⟨b, hk.own ho (fun k e => by have := own_lt ho k e; omega)⟩
theorem IRow.at_ {W : World} {A : Option Addr} {n c : Nat} {xs : List Int} (h : IRow W A n c xs) : IntsAt W A n xs := by
  obtain ⟨b, ho⟩ := h
  obtain ⟨A', c', e, hi⟩ := owns_cells ho
  injection e with e1 _ e3
  subst e1
  exact hi
/-- A world's rows in memory. -/
structure WR (W : World) (d : WD) (s : WS) : Prop where
  ins : VRow W s.A0 d.ins.length s.c0 d.ins
  clocks : IRow W s.A1 d.clocks.length s.c1 d.clocks
  choices : IRow W s.A2 d.choices.length s.c2 d.choices
  fuel : IRow W s.A3 d.fuel.length s.c3 d.fuel
  limit : IRow W s.A4 d.limit.length s.c4 d.limit
  plain : ∀ v ∈ d.ins, PlainS v.s
  few : d.ins.length ≤ 100000 ∧ d.clocks.length ≤ 100000 ∧ d.choices.length ≤ 100000 ∧ d.fuel.length ≤ 100000 ∧ d.limit.length ≤ 100000
theorem WR.since {W W' : World} {d : WD} {s : WS} (h : WR W d s) (hk : Since W.heap.size W W') : WR W' d s := ⟨h.ins.since hk, h.clocks.since hk, h.choices.since hk, h.fuel.since hk, h.limit.since hk, h.plain, h.few⟩
def r0 (d : WD) : Bool := decide ((d.ins.length : Int) ≤ 1000) && allP d.ins
def r1 (d : WD) : Bool := decide ((d.clocks.length : Int) ≤ 1000) && allR (-1000000000000000) 1000000000000000 d.clocks
def r2 (d : WD) : Bool := decide ((d.choices.length : Int) ≤ 1000) && allR (-1000000000) 1000000000 d.choices
def r3 (d : WD) : Bool := decide ((d.fuel.length : Int) ≤ 4) && allR 0 1000000000000000 d.fuel
def r4 (d : WD) : Bool := decide ((d.limit.length : Int) ≤ 4) && allR 0 30000 d.limit
def r5 (d : WD) : Bool := inR 0 1000000000 d.epoch
def r6 (d : WD) : Bool := decide (0 < d.fuel.length)
def r7 (d : WD) : Bool := decide (d.fuel.length = d.limit.length)
/-- What is right. -/
def WD.right (d : WD) : Bool := r0 d && r1 d && r2 d && r3 d && r4 d && r5 d && r6 d && r7 d
end Go.Proofs.Ytbbeoeoengogpaa
