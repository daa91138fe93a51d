/- Install: what a store of modules is, without its memory: plain functions. -/
import Derived.Test.YtnhajhejkecihaaKB
namespace Go.Proofs.Ytnhajhejkecihaa
open Go.RowKit
set_option linter.unusedVariables false

/-- A module that is not gone; it begins at line a. -/
structure ME where
  id : Nat
  a : Nat
  bytes : Bytes
  dropped : Bool
  owed : List Bool
structure MS where
  inn : List Int
  all : List ME
  next : Nat
def lns (n : Nat) : Nat := (n + 15) / 16
def ME.stop (e : ME) : Nat := e.a + lns e.bytes.length
def ME.on (e : ME) (k : Nat) : Bool := decide (e.a ≤ k) && decide (k < e.stop)
def takenB (l : List ME) (k : Nat) : Bool := l.any (·.on k)
/-- The search for free lines, as the code goes: k lines were looked at, the last run of them are free. -/
def seek (t : Nat → Bool) (len : Nat) : Nat → Nat → Nat → Option Nat
  | 0, _, _ => none
  | f + 1, k, run => if (if t k then 0 else run + 1) * 16 < len then seek t len f (k + 1) (if t k then 0 else run + 1) else some (k + 1 - (if t k then 0 else run + 1))
def ME.owes (e : ME) (c : Nat) : Bool := e.owed.getD c false
def ME.free (e : ME) : Bool := e.owed.all (!·)
def MS.find (s : MS) (id : Int) : Option Nat := s.all.findIdx? fun e => (e.id : Int) == id && !e.dropped
def MS.owing (s : MS) : List Bool := List.replicate s.inn.length true
def MS.added (s : MS) (b : Bytes) (p : Nat) : MS := { s with all := s.all ++ [⟨s.next, p, b, false, s.owing⟩], next := s.next + 1 }
def ME.passed (c : Nat) (e : ME) : ME := { e with owed := e.owed.set c false }
def ME.gone (e : ME) : Bool := e.dropped && e.free
def MS.passed (s : MS) (c : Nat) : MS := { s with all := (s.all.map (ME.passed c)).filter fun e => !e.gone }
def MS.dropped (s : MS) (j : Nat) (e : ME) : MS := { s with all := s.all.set j { e with dropped := true, owed := s.owing } }
def MS.left (s : MS) (c : Nat) (v : Int) : MS := { s with inn := s.inn.set c v }
/-- What always holds of a store. -/
structure MS.Inv (s : MS) : Prop where
  cpus : 1 ≤ s.inn.length ∧ s.inn.length ≤ 4
  size : ∀ e ∈ s.all, 0 < e.bytes.length ∧ e.stop ≤ 256
  owed : ∀ e ∈ s.all, e.owed.length = s.inn.length
  ids : ∀ e ∈ s.all, e.id < s.next
  apart : s.all.Pairwise fun e f => e.id ≠ f.id ∧ (e.stop ≤ f.a ∨ f.stop ≤ e.a)
  few : s.all.length ≤ 16
  next : s.next ≤ 1000000
  inn : ∀ v ∈ s.inn, -1 ≤ v ∧ v < s.next

theorem seek_spec (t : Nat → Bool) (len : Nat) (hl : 0 < len) : ∀ (f k run p : Nat), run * 16 < len → (∀ i, k ≤ i + run → i < k → t i = false) → run ≤ k → seek t len f k run = some p →
    p + lns len ≤ k + f ∧ (∀ i, p ≤ i → i < p + lns len → t i = false)
  | 0, _, _, _, _, _, _, h => by cases h
  | f + 1, k, run, p, hr, hf, hk, h => by
    unfold seek at h
    cases ht : t k with
    | true =>
      rw [ht] at h
      simp only [if_true] at h
      rw [if_pos (by omega)] at h
      have := seek_spec t len hl f (k + 1) 0 p (by omega) (fun i h1 h2 => by omega) (by omega) h
      exact ⟨by omega, this.2⟩
    | false =>
      rw [ht] at h
      simp only [Bool.false_eq_true, if_false] at h
      have hfr : ∀ i, k + 1 ≤ i + (run + 1) → i < k + 1 → t i = false := fun i h1 h2 => by
        by_cases hik : i = k
        · subst hik; exact ht
        · exact hf i (by omega) (by omega)
      split at h
      · rename_i hlt
        have := seek_spec t len hl f (k + 1) (run + 1) p hlt hfr (by omega) h
        exact ⟨by omega, this.2⟩
      · rename_i hge
        obtain rfl := Option.some.inj h
        have hl2 : lns len = run + 1 := by unfold lns; omega
        exact ⟨by omega, fun i h1 h2 => hfr i (by omega) (by omega)⟩
/-- No line of a window is free throughout. -/
def barred (t : Nat → Bool) (n q : Nat) : Prop := ∃ i, q ≤ i ∧ i < q + n ∧ t i = true
/-- It is the first run of free lines. -/
theorem seek_least (t : Nat → Bool) (len : Nat) (hl : 0 < len) : ∀ (f k run : Nat), run * 16 < len → run ≤ k → (∀ q, q + run < k → barred t (lns len) q) →
    (∀ p, seek t len f k run = some p → ∀ q, q < p → barred t (lns len) q) ∧ (seek t len f k run = none → ∀ q, q + lns len ≤ k + f → barred t (lns len) q)
  | 0, k, run, hr, hk, hb => ⟨fun p h => (by cases h), fun _ q hq => hb q (by unfold lns at hq; omega)⟩
  | f + 1, k, run, hr, hk, hb => by
    unfold seek
    cases ht : t k with
    | true =>
      simp only [if_true]
      rw [if_pos (by omega)]
      have := seek_least t len hl f (k + 1) 0 (by omega) (by omega) (fun q hq => by
        by_cases hqk : q + run < k
        · exact hb q hqk
        · exact ⟨k, by omega, by unfold lns; omega, ht⟩)
      exact ⟨this.1, fun h q hq => this.2 h q (by omega)⟩
    | false =>
      simp only [Bool.false_eq_true, if_false]
      split
      · rename_i hlt
        have := seek_least t len hl f (k + 1) (run + 1) hlt (by omega) (fun q hq => hb q (by omega))
        exact ⟨this.1, fun h q hq => this.2 h q (by omega)⟩
      · rename_i hge
        exact ⟨fun p h q hq => by obtain rfl := Option.some.inj h; exact hb q (by omega), fun h => by cases h⟩
/-- Where the lines below m are taken, and no others. -/
theorem seek_prefix (t : Nat → Bool) (len m : Nat) (hl : 0 < len) (hm : ∀ i, t i = decide (i < m)) : seek t len 256 0 0 = if m + lns len ≤ 256 then some m else none := by
  have h1 := seek_least t len hl 256 0 0 (by omega) (by omega) (fun q hq => by omega)
  cases hs : seek t len 256 0 0 with
  | none =>
    rw [if_neg]
    intro hle
    obtain ⟨i, hi1, hi2, hi3⟩ := h1.2 hs m (by omega)
    rw [hm] at hi3
    simp at hi3
    omega
  | some p =>
    have h2 := seek_spec t len hl 256 0 0 p (by omega) (fun i _ h => by omega) (by omega) hs
    have hlp : 0 < lns len := by unfold lns; omega
    have hpm : m ≤ p := by
      have := h2.2 p (by omega) (by omega)
      rw [hm] at this
      simp at this
      exact this
    have hpe : p = m := by
      by_cases h : m < p
      · obtain ⟨i, hi1, hi2, hi3⟩ := h1.1 p hs m h
        rw [hm] at hi3
        simp at hi3
        omega
      · omega
    subst hpe
    rw [if_pos (by omega)]
theorem taken_nil (k : Nat) : takenB [] k = false := rfl
theorem taken_snoc (l : List ME) (e : ME) (k : Nat) : takenB (l ++ [e]) k = (takenB l k || e.on k) := by simp [takenB]
end Go.Proofs.Ytnhajhejkecihaa
