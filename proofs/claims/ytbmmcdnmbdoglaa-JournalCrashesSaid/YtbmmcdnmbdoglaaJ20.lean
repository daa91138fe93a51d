/- More contracts for JournalCrashes: a crash, the journal opened anew, and the model's Opens. -/
import Derived.Test.YtbmmcdnmbdoglaaJ19
namespace Go.Proofs.Ytbmmcdnmbdoglaa
open Go.RowKit
set_option linter.unusedVariables false

def Rel2 (l : List Bytes) (m : MS) : Prop := l = m.l ∨ ∃ x, m.broken = true ∧ m.maybe = [x] ∧ x.length ≤ 200 ∧ l = m.l ++ [x]
def QD (w0 : World) (n mp : Nat) (w : World) (p C B : Nat) (l : List Bytes) : Prop :=
  Since w0.heap.size w0 w ∧ ∃ Y m, GD n Y w p l C ∧ MX n w mp m Y ∧ Rel2 l m ∧ bytesOf l ≤ B
def QO (w0 : World) (n mp : Nat) (w : World) (jp p C B : Nat) (l : List Bytes) (A : Option Addr) : Prop :=
  Since w0.heap.size w0 w ∧ ∃ Y Z m, GJ n Z w jp p l C ∧ MX n w mp m Y ∧ Rel2 l m ∧ (∀ k, Y k → Z k) ∧ (∀ a, A = some a → ¬ Y a.block) ∧ bytesOf l ≤ B
theorem qb_crash {w0 w : World} {n mp jp p C B many : Nat} (h : QB w0 n mp w jp p C B many) (S : Option Addr) (k sc : Nat) (ns : List Int) (hS : IntsAt w S k ns) (hns : ∀ x ∈ ns, -9223372036854775808 ≤ x ∧ x ≤ 9223372036854775807) :
    Calls Try.prog 18 #[.pointer (some ⟨p, 0, none⟩), .slice S k sc] w fun e w' => ∃ p' l, e = .returned (.pointer (some ⟨p', 0, none⟩)) ∧ QD w0 n mp w' p' 0 (B + 216) l := by
  obtain ⟨hs, Y, d, j0, d0, l, y, h1, h3, h2, h5, g, t, hy, hm⟩ := h
  refine (crash_X h1.dx S k sc ns hS hns (by have := t.parts; omega)).mono ?_
  rintro e w' ⟨rfl, hd, _, hs'⟩
  have a1 := Keep.trans hs (Since.mono hs' hs.size)
  have a2 := h2.since hs'
  rcases t.crash ns with ⟨E, ho⟩ | ⟨E, ho⟩
  · exact ⟨_, l, rfl, a1, Y, _, ⟨_, E, hd, rfl, by show (0 : Int) ≤ _; omega, by show ([] : List (Nat × Bytes)).length ≤ _; simp, ho⟩, a2, .inl rfl, by omega⟩
  · exact ⟨_, l ++ [y], rfl, a1, Y, _, ⟨_, E, hd, rfl, by show (0 : Int) ≤ _; omega, by show ([] : List (Nat × Bytes)).length ≤ _; simp, ho⟩, a2, .inr ⟨y, rfl, rfl, hy, rfl⟩, by rw [bytesOf_append]; simp only [bytesOf]; omega⟩
theorem qj_crash {w0 w : World} {n mp jp p C B : Nat} (h : QJ w0 n mp w jp p C B) (S : Option Addr) (k sc : Nat) (ns : List Int) (hS : IntsAt w S k ns) (hns : ∀ x ∈ ns, -9223372036854775808 ≤ x ∧ x ≤ 9223372036854775807) :
    Calls Try.prog 18 #[.pointer (some ⟨p, 0, none⟩), .slice S k sc] w fun e w' => ∃ p' l, e = .returned (.pointer (some ⟨p', 0, none⟩)) ∧ Since w0.heap.size w0 w' ∧ ∃ Y, GD n Y w' p' l 0 ∧ MX n w' mp ⟨l, [], false, bytesOf l⟩ Y := by
  obtain ⟨hs, Y, l, h1, h2, h3⟩ := h
  refine (crash_GJ h1 S k sc ns hS hns).mono ?_
  rintro e w' ⟨rfl, hd, _, hs'⟩
  exact ⟨_, l, rfl, Keep.trans hs (Since.mono hs' hs.size), Y, hd, h2.since hs'⟩
theorem open_QD {w0 w : World} {n mp p C B : Nat} {l : List Bytes} (h : QD w0 n mp w p C B l) (hn : w0.heap.size ≤ n) (hC : C ≤ 80000000) :
    Calls Try.prog 12 #[.pointer (some ⟨p, 0, none⟩)] w fun e w' => ∃ jp A c, e = .returned (.tuple #[.pointer (some ⟨jp, 0, none⟩), .slice A l.length c, .int .i64 0]) ∧ QO w0 n mp w' jp p (C + 1) B l A ∧ StrsAt w' A l.length l ∧ (A = none → l.length = 0 ∧ c = 0) := by
  obtain ⟨hs, Y, m, h1, h2, h3, h4⟩ := h
  refine (open_GD h1 hC).mono ?_
  rintro e w' ⟨jp, A, c, rfl, hj, hk, hA, hA2, hA3⟩
  refine ⟨jp, A, c, rfl, ⟨Keep.trans hs (Since.mono hk.since hn), Y, _, m, hj, h2.kx hk (fun _ h => h), h3, fun k hk' => .inl hk', fun a ha hy => ?_, h4⟩, hA, hA3.1⟩
  have := (h2.lt _ hy).2
  have := hA2 a ha
  omega
theorem opens_QO {w0 w : World} {n mp jp p C B k c : Nat} {l : List Bytes} {A : Option Addr} (h : QO w0 n mp w jp p C B l A) (hn : w0.heap.size ≤ n) (hA : StrsAt w A k l) (hno : A = none → k = 0 ∧ c = 0) (hB : B ≤ 1000000) :
    Calls Try.prog 19 #[.pointer (some ⟨mp, 0, none⟩), .slice A k c] w fun e w' => e = .returned (.bool true) ∧ QJ w0 n mp w' jp p C B := by
  obtain ⟨hs, Y, Z, m, h1, h2, h3, h4, h5, h6⟩ := h
  have hk : k ≤ 1000000 := by
    have h1 := hA.len
    have h2 := (sum4_le l).2
    omega
  have fin : ∀ (w' : World) (Y' : Nat → Prop), MX n w' mp ⟨l, [], false, bytesOf l⟩ Y' → Keep Y w w' → (∀ i, Y' i → i < w'.heap.size ∧ (Y i ∨ w.heap.size ≤ i)) → QJ w0 n mp w' jp p C B := fun w' Y' hm hk' hy =>
    ⟨Keep.trans hs (Keep.mono hk' (fun i hi => Nat.le_trans hn (h2.lt i hi).1)), Y', l, h1.beside hk' h4 (fun i hi => ⟨(hy i hi).1, by
      rcases (hy i hi).2 with h | h
      · exact .inl (h4 i h)
      · exact .inr h⟩), hm, h6⟩
  rcases h3 with h3 | ⟨x, mb, ma, hx, h3⟩
  · refine (opens_same h2 h1.le hA hno h5 h3 hk (by omega)).mono ?_
    rintro e w' ⟨rfl, Y', hm, hk', hy⟩
    exact ⟨rfl, fin w' Y' hm hk' hy⟩
  · refine (opens_perhaps (x := sb x) h2 h1.le hA hno h5 mb (by rw [ma]; simp [bs_sb]) (by rw [h3]; simp [bs_sb]) hk (by omega)).mono ?_
    rintro e w' ⟨rfl, Y', hm, hk', hy⟩
    exact ⟨rfl, fin w' Y' hm hk' hy⟩
theorem mx_row {n mp : Nat} {w : World} {m : MS} {X : Nat → Prop} (h : MX n w mp m X) : ∃ A c, w.cell? ⟨mp, 0, none⟩ = some (.slice A m.l.length c) ∧ StrsAt w A m.l.length m.l := by
  obtain ⟨R, S, hb, _⟩ := h
  obtain ⟨A, c, rfl, hc⟩ := owns_cells hb.rl
  exact ⟨A, c, by rw [blk_cell hb.blk]; rfl, hc⟩
end Go.Proofs.Ytbmmcdnmbdoglaa
