/- A journal whose power may fail, together with the reference journal. -/
import Derived.Test.YtbmmcdnmbdoglaaJ16
namespace Go.Proofs.Ytbmmcdnmbdoglaa
open Go.RowKit
set_option linter.unusedVariables false

/-- After an Append that failed: whatever crashes, l opens, or l and x. -/
structure TT (d : DS) (l : List Bytes) (x : Bytes) : Prop where
  now : Either d.now l x
  crash : ∀ ns, Either (d.crash ns).now l x
  parts : d.parts.length ≤ 500
theorem Torn.tt {d : DS} {l : List Bytes} {x : Bytes} (h : Torn d l x) (hx : x.length ≤ 200) : TT d l x := ⟨h.now, h.crash, by have := h.parts; omega⟩
theorem TT.fail {d : DS} {l : List Bytes} {x : Bytes} (h : TT d l x) (k : Int) : TT (d.fail k) l x := ⟨h.now, h.crash, h.parts⟩
def Power (d : DS) : Prop := d.failing = false ∨ ∃ q : Nat, d.failing = true ∧ d.left = (q : Int)
theorem power_fail (d : DS) (k : Int) : Power (d.fail k) := by
  by_cases hk : 0 ≤ k
  · exact .inr ⟨k.toNat, by show decide (0 ≤ k) = true; simpa using hk, by show k = _; omega⟩
  · exact .inl (by show decide (0 ≤ k) = false; simpa using hk)
theorem good_fail {d : DS} {j : JS} {l : List Bytes} (h : Good d j l) (k : Int) : Good (d.fail k) j l := ⟨h.syn, h.prt, h.opn, h.many, h.bytes, h.fine⟩

/-- The disk and the journal beside a model m: good, or broken. -/
def Both (d : DS) (j : JS) (m : MS) : Prop :=
  (Good d j m.l ∧ Power d ∧ m.maybe = [] ∧ m.broken = false) ∨
  (∃ j0 d0 x, j = { j0 with broken := true } ∧ Good d0 j0 m.l ∧ TT d m.l x ∧ m.maybe = [x] ∧ m.broken = true ∧ x.length ≤ 200)
def SJ (w0 : World) (n mp : Nat) (w : World) (jp p C B : Nat) : Prop :=
  Since w0.heap.size w0 w ∧ ∃ Y d j m, JX n Y w jp p d j ∧ MX n w mp m Y ∧ d.calls ≤ (C : Int) ∧ m.bytes = bytesOf m.l ∧ bytesOf m.l ≤ B ∧ Both d j m
/-- Between the journal's Append and the model's. -/
def SA (w0 : World) (n mp : Nat) (w : World) (jp p C B : Nat) (x : Bytes) (b : Bool) : Prop :=
  Since w0.heap.size w0 w ∧ ∃ Y d j m, JX n Y w jp p d j ∧ MX n w mp m Y ∧ d.calls ≤ (C : Int) ∧ m.bytes = bytesOf m.l ∧ bytesOf m.l ≤ B ∧
    ((b = true ∧ Good d j (m.l ++ [x]) ∧ Power d ∧ m.maybe = [] ∧ m.broken = false) ∨
     (b = false ∧ m.maybe = [] ∧ m.broken = false ∧ ∃ j0 d0, j = { j0 with broken := true } ∧ Good d0 j0 m.l ∧ TT d m.l x) ∨
     (b = false ∧ m.broken = true ∧ Both d j m))

theorem sj_drew {w0 w : World} {n mp jp p C B : Nat} (h : SJ w0 n mp w jp p C B) : SJ w0 n mp w.drew jp p C B := by
  obtain ⟨hs, Y, d, j, m, h1, h2, h3⟩ := h
  exact ⟨Keep.trans hs (keep_draw _ _), Y, d, j, m, h1.since (keep_draw _ _), h2.since (keep_draw _ _), h3⟩
theorem sj_fail {w0 w : World} {n mp jp p C B : Nat} (h : SJ w0 n mp w jp p C B) (hn : w0.heap.size ≤ n) (k : Int) (hk : k ≤ 1000000000000) :
    Calls Try.prog 20 #[.pointer (some ⟨p, 0, none⟩), .int .i64 k] w fun e w' => e = .returned (.tuple #[]) ∧ SJ w0 n mp w' jp p C B := by
  obtain ⟨hs, Y, d, j, m, h1, h2, h3, h4, h5, h6⟩ := h
  refine (fail_X h1 k hk).mono ?_
  rintro e w' ⟨rfl, hj, hkx⟩
  refine ⟨rfl, Keep.trans hs (Since.mono hkx.since hn), Y, _, j, m, hj, h2.kx hkx (fun _ h => h), h3, h4, h5, ?_⟩
  rcases h6 with ⟨g, _, a, b⟩ | ⟨j0, d0, x, e, g, t, a, b⟩
  · exact .inl ⟨good_fail g k, power_fail d k, a, b⟩
  · exact .inr ⟨j0, d0, x, e, g, t.fail k, a, b⟩
theorem sj_append {w0 w : World} {n mp jp p C B : Nat} (h : SJ w0 n mp w jp p C B) (hn : w0.heap.size ≤ n) (x : ByteArray) (hx : x.size ≤ 200) (hB : B ≤ 1000000) (hC : C ≤ 1000000) :
    Calls Try.prog 14 #[.pointer (some ⟨jp, 0, none⟩), .string x] w fun e w' => ∃ (v : Int) (b : Bool), e = .returned (.int .i64 v) ∧ (v == 0) = b ∧ SA w0 n mp w' jp p (C + 4) B (bs x) b := by
  obtain ⟨hs, Y, d, j, m, h1, h2, h3, h4, h5, h6⟩ := h
  have hl := sum4_le m.l
  rcases h6 with ⟨g, pw, ma, mb⟩ | ⟨j0, d0, x0, rfl, g, t, ma, mb⟩
  · have hst := g.stop
    have hby := g.bytes
    have hm := g.many
    have hf := good_few g h3 (by omega : C ≤ 80000000)
    rcases pw with pw | ⟨q, p1, p2⟩
    · obtain ⟨d', j', e1, g', f', c'⟩ := append_ok g pw (bs x) (by rw [bs_length]; omega)
      refine (append_X h1 x (by omega) hst.1 hst.2.1 (by omega) (by omega) hf e1).mono ?_
      rintro e w' ⟨rfl, hj, hkx⟩
      exact ⟨0, true, rfl, rfl, Keep.trans hs (Since.mono hkx.since hn), Y, d', j', m, hj, h2.kx hkx (fun _ h => h), by omega, h4, h5, .inl ⟨rfl, g', .inl f', ma, mb⟩⟩
    · obtain ⟨d', ⟨j', e1, g', c', f', l', hq⟩ | ⟨e1, t', _, c'⟩⟩ := append_fails g p1 p2 (bs x) (by rw [bs_length]; omega)
      · refine (append_X h1 x (by omega) hst.1 hst.2.1 (by omega) (by omega) hf e1).mono ?_
        rintro e w' ⟨rfl, hj, hkx⟩
        exact ⟨0, true, rfl, rfl, Keep.trans hs (Since.mono hkx.since hn), Y, d', j', m, hj, h2.kx hkx (fun _ h => h), by omega, h4, h5, .inl ⟨rfl, g', .inr ⟨q - 4, f', by simp only [l']; omega⟩, ma, mb⟩⟩
      · refine (append_X h1 x (by omega) hst.1 hst.2.1 (by omega) (by omega) hf e1).mono ?_
        rintro e w' ⟨rfl, hj, hkx⟩
        exact ⟨70, false, rfl, rfl, Keep.trans hs (Since.mono hkx.since hn), Y, d', _, m, hj, h2.kx hkx (fun _ h => h), by omega, h4, h5, .inr (.inl ⟨rfl, ma, mb, j, d, rfl, g, t'.tt (by rw [bs_length]; exact hx)⟩)⟩
  · have hst := g.stop
    have hby := g.bytes
    have hm := g.many
    refine (append_B h1 x (by omega) hst.1 hst.2.1 (by omega) (by omega) ⟨by omega, by have := t.parts; omega⟩).mono ?_
    rintro e w' ⟨rfl, hj, hkx⟩
    exact ⟨70, false, rfl, rfl, Keep.trans hs (Since.mono hkx.since hn), Y, d, _, m, hj, h2.kx hkx (fun _ h => h), by omega, h4, h5, .inr (.inr ⟨rfl, mb.1, .inr ⟨j0, d0, x0, rfl, g, t, ma, mb⟩⟩)⟩
theorem sj_model {w0 w : World} {n mp jp p C B : Nat} {x : ByteArray} {b : Bool} (h : SA w0 n mp w jp p C B (bs x) b) (hn : w0.heap.size ≤ n) (hx : x.size ≤ 200) (hB : B ≤ 1000000) :
    Calls Try.prog 16 #[.pointer (some ⟨mp, 0, none⟩), .string x, .bool b] w fun e w' => ∃ v, e = .returned (.int .i64 v) ∧ SJ w0 n mp w' jp p C (B + 216) := by
  obtain ⟨hs, Y, d, j, m, h1, h2, h3, h4, h5, h6⟩ := h
  have hl := sum4_le m.l
  have hlow : ∀ k, Y k → n ≤ k := fun k hk => (h2.lt k hk).1
  rcases h6 with ⟨rfl, g, pw, ma, mb⟩ | ⟨rfl, ma, mb, j0, d0, rfl, g, t⟩ | ⟨rfl, mb, hbo⟩
  · refine (append_M h2 mb x (by rw [h4]; omega) (by omega) h1.1).mono ?_
    rintro e w' ⟨rfl, Y', hm, hk, hy⟩
    refine ⟨0, rfl, Keep.trans hs (Keep.mono hk (fun i hi => Nat.le_trans hn (hlow i hi))), Y', d, j, _, h1.beside hk (fun _ h => h) hy, hm, h3, ?_, ?_, .inl ⟨g, pw, ma, mb⟩⟩
    · show m.bytes + x.size + 16 = bytesOf (m.l ++ [bs x])
      rw [bytesOf_append, h4]; simp only [bytesOf, bs_length]; omega
    · show bytesOf (m.l ++ [bs x]) ≤ _
      rw [bytesOf_append]; simp only [bytesOf, bs_length]; omega
  · refine (append_M_fails h2 mb ma x (by rw [h4]; omega) h1.1).mono ?_
    rintro e w' ⟨rfl, Y', hm, hk, hy⟩
    exact ⟨70, rfl, Keep.trans hs (Keep.mono hk (fun i hi => Nat.le_trans hn (hlow i hi))), Y', d, _, _, h1.beside hk (fun _ h => h) hy, hm, h3, h4, by show bytesOf m.l ≤ _; omega, .inr ⟨j0, d0, bs x, rfl, g, t, rfl, rfl, by rw [bs_length]; exact hx⟩⟩
  · refine (append_M_broken h2 mb x false).mono ?_
    rintro e w' ⟨rfl, rfl⟩
    exact ⟨70, rfl, hs, Y, d, j, m, h1, h2, h3, h4, by omega, hbo⟩
end Go.Proofs.Ytbmmcdnmbdoglaa
