/- A journal with its model, clean (QJ) or behind an Append that failed (QB): contracts for JournalCrashes. -/
import Derived.Test.YtbmmcdnmbdoglaaJ17
import Derived.Test.YtbmmcdnmbdoglaaJ18
namespace Go.Proofs.Ytbmmcdnmbdoglaa
open Go.RowKit
set_option linter.unusedVariables false

def QJ (w0 : World) (n mp : Nat) (w : World) (jp p C B : Nat) : Prop :=
  Since w0.heap.size w0 w ∧ ∃ Y l, GJ n Y w jp p l C ∧ MX n w mp ⟨l, [], false, bytesOf l⟩ Y ∧ bytesOf l ≤ B
/-- After Fail, or not. -/
def QF (w0 : World) (n mp : Nat) (w : World) (jp p C B : Nat) : Prop :=
  Since w0.heap.size w0 w ∧ ∃ Y d j l, JX n Y w jp p d j ∧ Good d j l ∧ Power d ∧ d.calls ≤ (C : Int) ∧ MX n w mp ⟨l, [], false, bytesOf l⟩ Y ∧ bytesOf l ≤ B
/-- Between the two Appends: b: has it worked? -/
def QA (w0 : World) (n mp : Nat) (w : World) (jp p C B : Nat) (x : Bytes) (b : Bool) : Prop :=
  Since w0.heap.size w0 w ∧ ∃ Y d j l, JX n Y w jp p d j ∧ d.calls ≤ (C : Int) ∧ MX n w mp ⟨l, [], false, bytesOf l⟩ Y ∧ bytesOf l ≤ B ∧
    ((b = true ∧ Good d j (l ++ [x])) ∨ (b = false ∧ ∃ j0 d0, j = { j0 with broken := true } ∧ Good d0 j0 l ∧ TT d l x))
/-- Behind both, where it has not worked. -/
def QB (w0 : World) (n mp : Nat) (w : World) (jp p C B many : Nat) : Prop :=
  Since w0.heap.size w0 w ∧ ∃ Y d j0 d0 l x, JX n Y w jp p d { j0 with broken := true } ∧ d.calls ≤ (C : Int) ∧ MX n w mp ⟨l, [x], true, bytesOf l⟩ Y ∧ bytesOf l ≤ B ∧ Good d0 j0 l ∧ TT d l x ∧ x.length ≤ 200 ∧ l.length = many
theorem qj_qf {w0 w : World} {n mp jp p C B : Nat} (h : QJ w0 n mp w jp p C B) : QF w0 n mp w jp p C B := by
  obtain ⟨hs, Y, l, ⟨d, j, h1, h2, h3, h4⟩, h5, h6⟩ := h
  exact ⟨hs, Y, d, j, l, h1, h2, .inl h3, h4, h5, h6⟩
theorem qj_fail {w0 w : World} {n mp jp p C B : Nat} (h : QJ w0 n mp w jp p C B) (hn : w0.heap.size ≤ n) (k : Int) (hk : k ≤ 1000000000000) :
    Calls Try.prog 20 #[.pointer (some ⟨p, 0, none⟩), .int .i64 k] w fun e w' => e = .returned (.tuple #[]) ∧ QF w0 n mp w' jp p C B := by
  obtain ⟨hs, Y, l, ⟨d, j, h1, h2, h3, h4⟩, h5, h6⟩ := h
  refine (fail_X h1 k hk).mono ?_
  rintro e w' ⟨rfl, hj, hkx⟩
  exact ⟨rfl, Keep.trans hs (Since.mono hkx.since hn), Y, _, j, l, hj, good_fail h2 k, power_fail d k, h4, h5.kx hkx (fun _ h => h), h6⟩
theorem qf_append {w0 w : World} {n mp jp p C B : Nat} (h : QF w0 n mp w jp p C B) (hn : w0.heap.size ≤ n) (x : ByteArray) (hx : x.size ≤ 200) (hB : B ≤ 1000000) (hC : C ≤ 1000000) :
    Calls Try.prog 14 #[.pointer (some ⟨jp, 0, none⟩), .string x] w fun e w' => ∃ (v : Int) (b : Bool), e = .returned (.int .i64 v) ∧ ((v = 0 ∧ b = true) ∨ (v = 70 ∧ b = false)) ∧ QA w0 n mp w' jp p (C + 4) B (bs x) b := by
  obtain ⟨hs, Y, d, j, l, h1, g, pw, h3, h2, h5⟩ := h
  have hl := sum4_le l
  have hst := g.stop
  have hby := g.bytes
  have hm := g.many
  have hf := good_few g h3 (by omega : C ≤ 80000000)
  rcases pw with pw | ⟨q, p1, p2⟩
  · obtain ⟨d', j', e1, g', f', c'⟩ := append_ok g pw (bs x) (by rw [bs_length]; omega)
    refine (append_X h1 x (by omega) hst.1 hst.2.1 (by omega) (by omega) hf e1).mono ?_
    rintro e w' ⟨rfl, hj, hkx⟩
    exact ⟨0, true, rfl, .inl ⟨rfl, rfl⟩, Keep.trans hs (Since.mono hkx.since hn), Y, d', j', l, hj, by omega, h2.kx hkx (fun _ h => h), h5, .inl ⟨rfl, g'⟩⟩
  · obtain ⟨d', ⟨j', e1, g', c', f', l', hq⟩ | ⟨e1, t', _, c'⟩⟩ := append_fails g p1 p2 (bs x) (by rw [bs_length]; omega)
    · refine (append_X h1 x (by omega) hst.1 hst.2.1 (by omega) (by omega) hf e1).mono ?_
      rintro e w' ⟨rfl, hj, hkx⟩
      exact ⟨0, true, rfl, .inl ⟨rfl, rfl⟩, Keep.trans hs (Since.mono hkx.since hn), Y, d', j', l, hj, by omega, h2.kx hkx (fun _ h => h), h5, .inl ⟨rfl, g'⟩⟩
    · refine (append_X h1 x (by omega) hst.1 hst.2.1 (by omega) (by omega) hf e1).mono ?_
      rintro e w' ⟨rfl, hj, hkx⟩
      exact ⟨70, false, rfl, .inr ⟨rfl, rfl⟩, Keep.trans hs (Since.mono hkx.since hn), Y, d', _, l, hj, by omega, h2.kx hkx (fun _ h => h), h5, .inr ⟨rfl, j, d, rfl, g, t'.tt (by rw [bs_length]; exact hx)⟩⟩
/-- The model's Append and Fail(-1), where it has worked. -/
theorem qa_ok {w0 w : World} {n mp jp p C B : Nat} {x : ByteArray} (h : QA w0 n mp w jp p C B (bs x) true) (hn : w0.heap.size ≤ n) (hx : x.size ≤ 200) (hB : B ≤ 1000000) :
    Calls Try.prog 16 #[.pointer (some ⟨mp, 0, none⟩), .string x, .bool true] w fun e w' => e = .returned (.int .i64 0) ∧
      ∀ w2, w2 = w' → Calls Try.prog 20 #[.pointer (some ⟨p, 0, none⟩), .int .i64 (-1)] w2 fun e w3 => e = .returned (.tuple #[]) ∧ QJ w0 n mp w3 jp p C (B + 216) := by
  obtain ⟨hs, Y, d, j, l, h1, h3, h2, h5, ⟨_, g⟩ | ⟨hf, _⟩⟩ := h
  · have hlow : ∀ k, Y k → n ≤ k := fun k hk => (h2.lt k hk).1
    have hl := sum4_le l
    refine (append_M h2 rfl x (by show bytesOf l + _ + _ + _ ≤ _; omega) (by show l.length ≤ _; omega) h1.1).mono ?_
    rintro e w' ⟨rfl, Y', hm, hk, hy⟩
    refine ⟨rfl, fun w2 hw => ?_⟩
    subst hw
    refine (fail_X (h1.beside hk (fun _ h => h) hy) (-1) (by decide)).mono ?_
    rintro e w3 ⟨rfl, hj, hkx⟩
    have hb : bytesOf (l ++ [bs x]) = bytesOf l + x.size + 16 := by rw [bytesOf_append]; simp only [bytesOf, bs_length]; omega
    refine ⟨rfl, Keep.trans (Keep.trans hs (Keep.mono hk (fun i hi => Nat.le_trans hn (hlow i hi)))) (Since.mono hkx.since hn), Y', l ++ [bs x], ⟨_, j, hj, good_fail g (-1), rfl, h3⟩, ?_, by omega⟩
    have := hm.kx hkx (fun _ h => h)
    rw [hb]
    exact this
  · cases hf
theorem qa_bad {w0 w : World} {n mp jp p C B : Nat} {x : ByteArray} (h : QA w0 n mp w jp p C B (bs x) false) (hn : w0.heap.size ≤ n) (hx : x.size ≤ 200) (hB : B ≤ 1000000) :
    Calls Try.prog 16 #[.pointer (some ⟨mp, 0, none⟩), .string x, .bool false] w fun e w' => e = .returned (.int .i64 70) ∧ ∃ many, QB w0 n mp w' jp p C B many := by
  obtain ⟨hs, Y, d, j, l, h1, h3, h2, h5, ⟨hf, _⟩ | ⟨_, j0, d0, rfl, g, t⟩⟩ := h
  · cases hf
  · have hlow : ∀ k, Y k → n ≤ k := fun k hk => (h2.lt k hk).1
    refine (append_M_fails h2 rfl rfl x (by show bytesOf l + _ + _ + _ ≤ _; omega) h1.1).mono ?_
    rintro e w' ⟨rfl, Y', hm, hk, hy⟩
    exact ⟨rfl, l.length, Keep.trans hs (Keep.mono hk (fun i hi => Nat.le_trans hn (hlow i hi))), Y', d, j0, d0, l, bs x, h1.beside hk (fun _ h => h) hy, h3, hm, h5, g, t, by rw [bs_length]; exact hx, rfl⟩
theorem qb_append {w0 w : World} {n mp jp p C B many : Nat} (h : QB w0 n mp w jp p C B many) (hn : w0.heap.size ≤ n) (x : ByteArray) (hx : x.size ≤ 200) (hB : B ≤ 1000000) (hC : C ≤ 1000000) :
    Calls Try.prog 14 #[.pointer (some ⟨jp, 0, none⟩), .string x] w fun e w' => e = .returned (.int .i64 70) ∧ QB w0 n mp w' jp p C B many ∧ w'.cell? ⟨mp, 0, none⟩ = w.cell? ⟨mp, 0, none⟩ := by
  obtain ⟨hs, Y, d, j0, d0, l, y, h1, h3, h2, h5, g, t, hy, hm⟩ := h
  have hst := g.stop
  have hby := g.bytes
  have hmm := g.many
  refine (append_B h1 x (by omega) hst.1 hst.2.1 (by omega) (by omega) ⟨by omega, by have := t.parts; omega⟩).mono ?_
  rintro e w' ⟨rfl, hj, hkx⟩
  obtain ⟨A1, c1, hc1⟩ := h2.cell
  have hymp : Y mp := by
    obtain ⟨R, S, _, hX⟩ := h2
    exact (hX mp).2 (.inl rfl)
  exact ⟨rfl, ⟨Keep.trans hs (Since.mono hkx.since hn), Y, d, j0, d0, l, y, hj, h3, h2.kx hkx (fun _ h => h), h5, g, t, hy, hm⟩, (hkx.cell hc1 (.inr hymp)).trans hc1.symm⟩
theorem qb_drew {w0 w : World} {n mp jp p C B many : Nat} (h : QB w0 n mp w jp p C B many) : QB w0 n mp w.drew jp p C B many := by
  obtain ⟨hs, Y, d, j0, d0, l, y, h1, h3, h2, h4⟩ := h
  exact ⟨Keep.trans hs (keep_draw _ _), Y, d, j0, d0, l, y, h1.since (keep_draw _ _), h3, h2.since (keep_draw _ _), h4⟩
theorem qb_many {w0 w : World} {n mp jp p C B many : Nat} (h : QB w0 n mp w jp p C B many) :
    Calls Try.prog 17 #[.pointer (some ⟨jp, 0, none⟩)] w fun e w' => e = .returned (.int .i64 (many : Int)) ∧ w = w' := by
  obtain ⟨hs, Y, d, j0, d0, l, y, h1, h3, h2, h5, g, t, hy, hm⟩ := h
  have := many_X h1
  rwa [show ({ j0 with broken := true } : JS).many = many from g.many.trans hm] at this
theorem qb_cell {w0 w : World} {n mp jp p C B many : Nat} (h : QB w0 n mp w jp p C B many) : ∃ A c, w.cell? ⟨mp, 0, none⟩ = some (.slice A many c) := by
  obtain ⟨hs, Y, d, j0, d0, l, y, h1, h3, h2, h5, g, t, hy, hm⟩ := h
  have := h2.cell
  rwa [show (⟨l, [y], true, bytesOf l⟩ : MS).l.length = many from hm] at this
end Go.Proofs.Ytbmmcdnmbdoglaa
