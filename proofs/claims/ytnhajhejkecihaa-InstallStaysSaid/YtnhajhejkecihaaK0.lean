/- Small laws on slices that read as lists, and on append, that the walks of this seat share. -/
import Derived.WalkKit
import Derived.Lib.Hide
import Derived.Deep.QuietTactic
import Derived.BigQuiet
import Derived.WalkSpells
import Derived.Laws.AppendOwnNone
import Derived.Maps.AppendAt
namespace Go.Proofs.Ytnhajhejkecihaa
open Go.RowKit

/-- A slice's elements, with address A and n elements of one cell each, are xs. -/
def CellsAt (w : World) (A : Option Addr) (n : Nat) (xs : List Value) : Prop :=
  xs.length = n ∧ n ≤ 9223372036854775807 ∧ (0 < n → ∃ b off, A = some ⟨b, off, none⟩ ∧ b < w.heap.size ∧ ∀ j, j < n → w.cell? ⟨b, off + j, none⟩ = xs[j]?)

theorem CellsAt.len {w : World} {A : Option Addr} {n : Nat} {xs : List Value} (h : CellsAt w A n xs) : xs.length = n := h.1
theorem CellsAt.bound {w : World} {A : Option Addr} {n : Nat} {xs : List Value} (h : CellsAt w A n xs) : n ≤ 9223372036854775807 := h.2.1
theorem CellsAt.nil (w : World) (A : Option Addr) : CellsAt w A 0 [] := ⟨rfl, by omega, fun h => absurd h (by omega)⟩
theorem CellsAt.below {w w' : World} {A : Option Addr} {n : Nat} {xs : List Value} (h : CellsAt w A n xs) (hb : Below w.heap.size w w') : CellsAt w' A n xs :=
  ⟨h.1, h.2.1, fun h0 => let ⟨b, off, e, hl, hc⟩ := h.2.2 h0; ⟨b, off, e, Nat.lt_of_lt_of_le hl hb.size, fun j hj => (hb.cell (p := ⟨b, off + j, none⟩) hl).trans (hc j hj)⟩⟩
theorem CellsAt.drewN {w : World} {A : Option Addr} {n : Nat} {xs : List Value} (h : CellsAt w A n xs) (k : Nat) : CellsAt (w.drewN k) A n xs := h
theorem CellsAt.alloc {w : World} {A : Option Addr} {n : Nat} {xs : List Value} (h : CellsAt w A n xs) (o : Obj) : CellsAt (w.alloc o) A n xs :=
  h.below ((Below.refl _ _).alloc (Nat.le_refl _) _)
theorem CellsAt.at_ {w : World} {A : Option Addr} {n : Nat} {xs : List Value} (h : CellsAt w A n xs) (k : Nat) (hk : k < n) :
    ∃ b off, A = some ⟨b, off, none⟩ ∧ w.cell? ⟨b, off + k, none⟩ = some (xs.getD k undef) := by
  obtain ⟨b, off, e, _, hc⟩ := h.2.2 (by omega)
  refine ⟨b, off, e, ?_⟩
  rw [hc k hk, List.getD_eq_getElem?_getD, List.getElem?_eq_getElem (by rw [h.1]; exact hk)]
  rfl
/-- The first m of n elements. -/
theorem CellsAt.take {w : World} {A : Option Addr} {n : Nat} {xs : List Value} (h : CellsAt w A n xs) (m : Nat) (hm : m ≤ n) : CellsAt w A m (xs.take m) :=
  ⟨by rw [List.length_take, h.1]; omega, by have := h.2.1; omega, fun h0 => let ⟨b, off, e, hl, hc⟩ := h.2.2 (by omega); ⟨b, off, e, hl, fun j hj => by rw [hc j (by omega), List.getElem?_take_of_lt hj]⟩⟩

def ints (xs : List Int) : List Value := xs.map (Value.int .i64)
theorem ints_length (xs : List Int) : (ints xs).length = xs.length := by simp [ints]
theorem ints_getD (xs : List Int) (k : Nat) (h : k < xs.length) : (ints xs).getD k undef = .int .i64 (xs.getD k 0) := by
  simp [ints, List.getD_eq_getElem?_getD, List.getElem?_eq_getElem h]
theorem ints_one (xs : List Int) : ∀ u ∈ ints xs, u.oneCell' = true := by
  intro u hu
  obtain ⟨_, _, rfl⟩ := List.mem_map.1 hu
  rfl
theorem ints_append (xs ys : List Int) : ints (xs ++ ys) = ints xs ++ ints ys := by simp [ints]
theorem ints_take (xs : List Int) (k : Nat) : (ints xs).take k = ints (xs.take k) := by simp [ints]
theorem ints_set (xs : List Int) (k : Nat) (v : Int) : (ints xs).set k (.int .i64 v) = ints (xs.set k v) := by simp [ints]

abbrev IntsAt (w : World) (A : Option Addr) (n : Nat) (xs : List Int) : Prop := CellsAt w A n (ints xs)
theorem IntsAt.at_ {w : World} {A : Option Addr} {n : Nat} {xs : List Int} (h : IntsAt w A n xs) (k : Nat) (hk : k < n) :
    ∃ b off, A = some ⟨b, off, none⟩ ∧ w.cell? ⟨b, off + k, none⟩ = some (.int .i64 (xs.getD k 0)) := by
  obtain ⟨b, off, e, hc⟩ := CellsAt.at_ h k hk
  refine ⟨b, off, e, ?_⟩
  rw [hc, ints_getD _ _ (by have := h.1; rw [ints_length] at this; omega)]
theorem IntsAt.length {w : World} {A : Option Addr} {n : Nat} {xs : List Int} (h : IntsAt w A n xs) : xs.length = n := by
  have := h.1; rwa [ints_length] at this

/-- What is owned reads so. -/
theorem owns_cells {w : World} {base : Nat} {e : TypeId} {v : Value} {n : Nat} {xs : List Value} (h : w.ownsRow base e 1 v n xs) :
    ∃ A c, v = .slice A n c ∧ CellsAt w A n xs := by
  obtain ⟨hl, h0 | ⟨g, cap, cur, rfl, hg, hh, hn, hc, hs, ht⟩⟩ := id h
  · obtain ⟨rfl, rfl⟩ := h0
    obtain rfl : xs = [] := List.eq_nil_of_length_eq_zero (by simpa using hl)
    exact ⟨none, 0, rfl, CellsAt.nil _ _⟩
  · refine ⟨_, cap, rfl, by simpa using hl, by unfold maxLen at hc; omega, fun _ => ⟨g, 0, rfl, (Array.getElem?_eq_some_iff.1 hh).1, fun j hj => ?_⟩⟩
    rw [Nat.zero_add]
    exact h.cellAt j (by omega)

/-- A type of slices whose elements have one cell. -/
structure OneTy (P : Program) (t e : TypeId) (z : Value) (bytes : Nat) : Prop where
  ht : P.underlying t = some (.slice e)
  info : (P.info? e).map (fun i => (i.zero, i.size, i.bytes)) = some (some z, 1, bytes)
  hz : z.cells.size = 1

/-- 'append(own, xs...)', whatever xs: nil, empty, or not. -/
theorem wpList_append_src {P : Program} {w : World} {ops : Array Oper} {rest : List Oper} {o : Oper} {a : Act} {Q : Exit → Act → World → Prop}
    (t e : TypeId) (z : Value) (bytes base : Nat) (T : OneTy P t e z bytes) (s x : Operand) (hgd : o.guard = none)
    (ho : o.op = .call { callee := .builtin .append, args := #[s, x], argTypes := #[t, t] })
    (v : Value) (n : Nat) (xs : List Value) (hs : a.eval s = v) (hown : w.ownsRow base e 1 v n xs)
    (A : Option Addr) (m c : Nat) (news : List Value) (hx : a.eval x = .slice A m c) (hnone : A = none → m = 0 ∧ c = 0) (hsrc : CellsAt w A m news) (h1 : ∀ u ∈ news, u.oneCell' = true)
    (hbytes : (n + m) * bytes ≤ 140737488355328) (hb0 : 0 < bytes) (hbase : base ≤ w.heap.size)
    (h : ∀ v' w', w'.ownsRow base e 1 v' (n + m) (xs ++ news) → w.grownBy w' v.ownBlock → (v' = .slice none 0 0 ↔ v = .slice none 0 0 ∧ m = 0) → (v'.ownBlock = v.ownBlock ∨ v'.ownBlock = some w.heap.size) → wpList P ops Q rest (a.put o.dst v') w') :
    wpList P ops Q (o :: rest) a w := by
  obtain ⟨i, hi, hz0, hz1, hz2⟩ := info_parts T.info
  have hlen : n + m ≤ 140737488355328 := Nat.le_trans (Nat.le_mul_of_pos_right _ hb0) hbytes
  cases A with
  | none =>
    obtain ⟨rfl, rfl⟩ := hnone rfl
    obtain rfl : news = [] := List.eq_nil_of_length_eq_zero hsrc.1
    refine wpList_append_own_none hgd s x t ho base e i 1 T.ht hi v n xs hs hown hx (h v w (by simpa using hown) (World.grownBy.refl _ _) (by simp) (.inl rfl))
  | some ad =>
    refine wpList_append_own_at w hgd s x t ho base e i z 1 bytes T.ht hi hz0 hz1 hz2 T.hz (by omega) v n xs hs hown ad m c news hx (by simpa using hsrc.1) ?_ h1 (by unfold maxLen; omega) hbytes hbase h
    intro j u hu
    have hj : j < m := by have := (List.getElem?_eq_some_iff.1 hu).1; rwa [hsrc.1] at this
    obtain ⟨b, off, e1, _, hc⟩ := hsrc.2.2 (by omega)
    obtain rfl := Option.some.inj e1
    rw [Addr.add_lit, hc j hj]
    exact hu

/-- A row that a literal has just made. -/
theorem own_new (w : World) (e : TypeId) (cs : Array Value) (n base : Nat) (hn : cs.size = n) (hm : n ≤ 9223372036854775807) (hb : base ≤ w.heap.size) :
    (w.alloc (.cells cs e)).ownsRow base e 1 (.slice (some ⟨w.heap.size, 0, none⟩) n n) n cs.toList := by
  subst hn
  refine ⟨by simp, .inr ⟨w.heap.size, cs.size, cs, rfl, hb, heap_alloc_new _ _, Nat.le_refl _, by unfold maxLen; omega, by simp, by rw [Nat.mul_one]; exact List.take_of_length_le (by simp)⟩⟩

/-- The cells of a block that has just been made. -/
theorem cells_new (w : World) (cs : List Value) (e : TypeId) (h : cs.length ≤ 9223372036854775807 := by simp) : CellsAt (w.alloc (.cells cs.toArray e)) (some ⟨w.heap.size, 0, none⟩) cs.length cs :=
  ⟨rfl, h, fun _ => ⟨w.heap.size, 0, rfl, by simp, fun j hj => by
    rw [World.cell?_of_block (w' := w.alloc (.cells cs.toArray e)) rfl]
    simp only [World.cell?, heap_alloc_new, Nat.zero_add]
    simp⟩⟩

theorem grown_of_below {w w1 : World} (h : Below w.heap.size w w1) (row : Option Nat) : w.grownBy w1 row := ⟨h.os, h.tape, h.output, h.size, fun i hi _ => h.block i hi⟩
theorem pw_own_below {w w1 : World} {base : Nat} {e : TypeId} {size n : Nat} {v : Value} {xs : List Value} (h : w.ownsRow base e size v n xs) (hb : Below w.heap.size w w1) : w1.ownsRow base e size v n xs :=
  h.kept (grown_of_below hb none) (by cases v.ownBlock <;> simp)

/-! Contracts inside a region that only reads. -/
theorem quiet_l {P : Program} {f : FuncId} {args : Array Value} {w : World} {n : Nat} {v : Value}
    (h : Calls P f args (w.drewN n) fun e w' => e = .returned v ∧ w.drewN n = w') : Calls P f args (w.drewN n) fun e w'' => e = .returned v ∧ ∃ m, w'' = w.drewN m :=
  h.mono fun _ _ ⟨he, hm⟩ => ⟨he, n, hm.symm⟩
theorem quiet_k {P : Program} {f : FuncId} {args : Array Value} {w : World} {n : Nat} {v : Value}
    (h : Calls P f args (w.drewN n) fun e w' => e = .returned v ∧ ∃ m, w' = (w.drewN n).drewN m) : Calls P f args (w.drewN n) fun e w'' => e = .returned v ∧ ∃ m, w'' = w.drewN m :=
  h.mono fun _ _ ⟨he, m, hm⟩ => ⟨he, n + m, by rw [hm, World.drewN_drewN]⟩
theorem quiet_add_l {P : Program} {f : FuncId} {args : Array Value} {w : World} {a n : Nat} {v : Value}
    (h : Calls P f args (w.drewN (a + n)) fun e w' => e = .returned v ∧ w.drewN (a + n) = w') :
    Calls P f args (w.drewN (a + n)) fun e w'' => e = .returned v ∧ ∃ m, w'' = w.drewN (a + m) :=
  h.mono fun _ _ ⟨he, hm⟩ => ⟨he, n, hm.symm⟩
theorem quiet_add_k {P : Program} {f : FuncId} {args : Array Value} {w : World} {a n : Nat} {v : Value}
    (h : Calls P f args (w.drewN (a + n)) fun e w' => e = .returned v ∧ ∃ m, w' = (w.drewN (a + n)).drewN m) :
    Calls P f args (w.drewN (a + n)) fun e w'' => e = .returned v ∧ ∃ m, w'' = w.drewN (a + m) :=
  h.mono fun _ _ ⟨he, m, hm⟩ => ⟨he, n + m, by rw [hm, World.drewN_drewN, Nat.add_assoc]⟩

theorem Calls.world_eq {P : Program} {f : FuncId} {args : Array Value} {w : World} {e0 : Ending} (h : Calls P f args w fun e w' => e = e0 ∧ w = w') :
    Calls P f args w fun e w' => e = e0 ∧ ∃ k, w' = w.drewN k := h.mono fun _ _ ⟨a, b⟩ => ⟨a, 0, b.symm⟩
theorem below_drewN {B : Nat} {a w : World} (h : Below B a w) (n : Nat) : Below B a (w.drewN n) := h.trans ⟨rfl, rfl, rfl, Nat.le_refl _, fun _ _ => rfl⟩
theorem below_alloc {w : World} (o : Obj) : Below w.heap.size w (w.alloc o) := (Below.refl _ _).alloc (Nat.le_refl _) _
/-- Two steps, each new memory alone. -/
theorem below_then {a b c : World} (h : Below a.heap.size a b) (k : Below b.heap.size b c) : Below a.heap.size a c := h.trans (k.mono h.size)
end Go.Proofs.Ytnhajhejkecihaa
