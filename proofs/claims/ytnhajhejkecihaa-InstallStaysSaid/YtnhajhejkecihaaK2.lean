/- append of any source onto an owned row, in a region that draws its order; the beginning of an owned row. -/
import Derived.Test.YtnhajhejkecihaaK1
import Derived.Deep.AppendLies
namespace Go.Proofs.Ytnhajhejkecihaa
open Go.RowKit
set_option linter.unusedVariables false

theorem own_none {w : World} {base : Nat} {e : TypeId} {v : Value} {n : Nat} {xs : List Value} (h : w.ownsRow base e 1 v n xs) : ∃ A c, v = .slice A n c ∧ (A = none → n = 0 ∧ c = 0) ∧ CellsAt w A n xs := by
  obtain ⟨A, c, rfl, hc⟩ := owns_cells h
  refine ⟨A, c, rfl, ?_, hc⟩
  rintro rfl
  obtain ⟨_, ⟨h1, h2⟩ | ⟨g, cap, cur, h1, _⟩⟩ := h
  · injection h1 with _ _ h3
    exact ⟨h2, h3⟩
  · cases h1
/-- v[:0] -/
theorem own_zero_len {w : World} {base : Nat} {e : TypeId} {A : Option Addr} {c n : Nat} {xs : List Value} (h : w.ownsRow base e 1 (.slice A n c) n xs) : w.ownsRow base e 1 (.slice A 0 c) 0 [] := by
  obtain ⟨hl, ⟨h1, rfl⟩ | ⟨g, cap, cur, h1, hg, hh, hn, hc, hs, ht⟩⟩ := h
  · cases h1
    exact World.ownsRow_nil _ _ _ _
  · cases h1
    exact ⟨rfl, .inr ⟨g, _, cur, rfl, hg, hh, Nat.zero_le _, hc, hs, by simp⟩⟩

/-- 'append(own, xs...)', whatever xs: nil, empty, or not: at a step of a region that draws. -/
theorem step_append_src {P : Program} {w : World} {ops : Array Oper} {o : Oper} {a : Act} {K : Act → World → Prop} {Q : Exit → Act → World → Prop} {E : Prop} (hgd : o.guard = none)
    (t e : TypeId) (z : Value) (bytes base : Nat) (T : OneTy P t e z bytes) (s x : Operand)
    (ho : o.op = .call { callee := .builtin .append, args := #[s, x], argTypes := #[t, t] })
    (v : Value) (n : Nat) (xs : List Value) (hs : a.eval s = v) (hown : w.ownsRow base e 1 v n xs)
    (A : Option Addr) (m c : Nat) (news : List Value) (hx : a.eval x = .slice A m c) (hnone : A = none → m = 0 ∧ c = 0) (hsrc : CellsAt w A m news) (h1 : ∀ u ∈ news, u.oneCell' = true)
    (hbytes : (n + m) * bytes ≤ 140737488355328) (hb0 : 0 < bytes) (hbase : base ≤ w.heap.size)
    (h : ∀ A' c' w', w'.ownsRow base e 1 (.slice A' (n + m) c') (n + m) (xs ++ news) → w.grownBy w' v.ownBlock → ((Value.slice A' (n + m) c').ownBlock = v.ownBlock ∨ (Value.slice A' (n + m) c').ownBlock = some w.heap.size) → K (a.put o.dst (.slice A' (n + m) c')) w') :
    if Region.wanted o (yielded ops a.tmps) = true then Oper.wp P o a w K Q else E := by
  have hw : Region.wanted o (yielded ops a.tmps) = true := by simp [Region.wanted, hgd]
  rw [if_pos hw]
  obtain ⟨i, hi, hz0, hz1, hz2⟩ := info_parts T.info
  have hlen : n + m ≤ 140737488355328 := Nat.le_trans (Nat.le_mul_of_pos_right _ hb0) hbytes
  obtain ⟨A0, c0, rfl⟩ := own_slice hown
  cases A with
  | none =>
    obtain ⟨rfl, rfl⟩ := hnone rfl
    obtain rfl : news = [] := List.eq_nil_of_length_eq_zero hsrc.1
    have hrun := run_append_owned_none (P := P) (w := w) base t o.type e i 1 T.ht hi _ n xs hown
    unfold Oper.wp
    simp [execOp, ho, resolve, invoke, builtin, hs, hx, hrun, Result.andThen]
    exact h A0 c0 w (by simpa using hown) (World.grownBy.refl _ _) (.inl rfl)
  | some ad =>
    obtain ⟨v', w', hr, h2, h3, h4, h5⟩ := run_append_own_at (P := P) w base t o.type e i z 1 bytes T.ht hi hz0 hz1 hz2 T.hz (by omega) _ n xs hown ad m c news (by simpa using hsrc.1) (by
      intro j u hu
      have hj : j < m := by have := (List.getElem?_eq_some_iff.1 hu).1; rwa [hsrc.1] at this
      obtain ⟨b, off, e1, _, hc⟩ := hsrc.2.2 (by omega)
      obtain rfl := Option.some.inj e1
      rw [Addr.add_lit, hc j hj]
      exact hu) h1 (by unfold maxLen; omega) hbytes hbase
    obtain ⟨A', c', rfl⟩ := own_slice h2
    unfold Oper.wp execOp
    simp only [ho, resolve, invoke, builtin, Sem.run_bind, Sem.run_pure, Result.andThen_ok, List.map_toArray, List.map_cons, List.map_nil, hs, hx, hr]
    exact h A' c' w' h2 h3 h5
theorem own_len (A : Option Addr) (n m : Nat) {c : Nat} : (Value.slice A n c).ownBlock = (Value.slice A m c).ownBlock := by cases A <;> rfl
theorem grown_far {w w1 : World} {row : Option Nat} (hg : w.drew.grownBy w1 row) {p i : Nat} {v : Value} (h : w.cell? ⟨p, i, none⟩ = some v) (f : w.frozen? ⟨p, i, none⟩ = false) (hp : p < w.heap.size) (hne : some p ≠ row) :
    w1.cell? ⟨p, i, none⟩ = some v ∧ w1.frozen? ⟨p, i, none⟩ = false := by
  have hb : w1.heap[p]? = w.heap[p]? := hg.block p hp hne
  exact ⟨(World.cell?_of_block (a := ⟨p, i, none⟩) hb).trans h, (World.frozen?_of_block (a := ⟨p, i, none⟩) hb).trans f⟩
theorem keep_frozen {F : Nat → Prop} {w w' : World} (hk : Keep F w w') {a : Addr} (hp : a.block < w.heap.size) (hF : ¬ F a.block) : w'.frozen? a = w.frozen? a := World.frozen?_of_block (hk.block a.block hp hF)
theorem keep_draw (F : Nat → Prop) (w : World) : Keep F w w.drew := ⟨rfl, rfl, rfl, Nat.le_refl _, fun _ _ _ => rfl⟩
theorem grown_drew {w w' : World} {row : Option Nat} (h : w.drew.grownBy w' row) : w.grownBy w' row := ⟨h.os, h.tape, h.output, h.size, h.block⟩

end Go.Proofs.Ytnhajhejkecihaa
