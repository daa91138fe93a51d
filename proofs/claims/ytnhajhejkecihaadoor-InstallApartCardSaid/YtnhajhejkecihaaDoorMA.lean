/- Small laws on slices that read as lists, and on append, that the walks of this seat share. -/
import Derived.WalkKit
import Derived.Lib.Hide
import Derived.Deep.QuietTactic
import Derived.BigQuiet
import Derived.WalkSpells
import Derived.Laws.AppendOwnNone
import Derived.Maps.AppendAt
import Derived.Lib.ConvBytes
import Derived.Laws.CopyOwn
import Derived.Lib.AppendZeros
import Derived.Lib.AppendZerosOnto
import Derived.Deep.OwnRows
import Derived.Deep.AppendLies
import Derived.Test.YtnhajhejkecihaaDoorRows
import Derived.Maps.OwnSet
import Derived.Maps.StringElems
import Derived.Lib.BufferWrite
import Derived.Laws.IdiomStrings
import Derived.Laws.Rows
import Derived.Laws.Tables
import Derived.Deep.Cut
namespace Go.Proofs.YtnhajhejkecihaaDoor
open Go.RowKit

/-- A slice's elements, with address A and n elements of one cell each, are xs. -/
def CellsAt (w : World) (A : Option Addr) (n : Nat) (xs : List Value) : Prop :=
  xs.length = n ∧ n ≤ 9223372036854775807 ∧ (0 < n → ∃ b off, A = some ⟨b, off, none⟩ ∧ b < w.heap.size ∧ ∀ j, j < n → w.cell? ⟨b, off + j, none⟩ = xs[j]?)

theorem CellsAt.len {w : World} {A : Option Addr} {n : Nat} {xs : List Value} (h : CellsAt w A n xs) : xs.length = n := h.1
theorem CellsAt.bound {w : World} {A : Option Addr} {n : Nat} {xs : List Value} (h : CellsAt w A n xs) : n ≤ 9223372036854775807 := h.2.1
theorem CellsAt.nil (w : World) (A : Option Addr) : CellsAt w A 0 [] := ⟨rfl, by omega, fun h => absurd h (by omega)⟩
theorem CellsAt.below {w w' : World} {A : Option Addr} {n : Nat} {xs : List Value} (h : CellsAt w A n xs) (hb : Below w.heap.size w w') : CellsAt w' A n xs :=
  ⟨h.1, h.2.1, fun h0 => let ⟨b, off, e, hl, hc⟩ := h.2.2 h0; ⟨b, off, e, Nat.lt_of_lt_of_le hl hb.size, fun j hj => (hb.cell (p := ⟨b, off + j, none⟩) hl).trans (hc j hj)⟩⟩
theorem CellsAt.drewN {w : World} {A : Option Addr} {n : Nat} {xs : List Value} (h : CellsAt w A n xs) (k : Nat) : CellsAt (w.drewN k) A n xs := h
theorem CellsAt.alloc {w : World} {A : Option Addr} {n : Nat} {xs : List Value} (h : CellsAt w A n xs) (o : Obj) : CellsAt (w.alloc o) A n xs :=
  h.below ((Below.refl _ _).alloc (Nat.le_refl _) _)
theorem CellsAt.at_ {w : World} {A : Option Addr} {n : Nat} {xs : List Value} (h : CellsAt w A n xs) (k : Nat) (hk : k < n) :
    ∃ b off, A = some ⟨b, off, none⟩ ∧ w.cell? ⟨b, off + k, none⟩ = some (xs.getD k undef) := by
  obtain ⟨b, off, e, _, hc⟩ := h.2.2 (by omega)
  refine ⟨b, off, e, ?_⟩
  rw [hc k hk, List.getD_eq_getElem?_getD, List.getElem?_eq_getElem (by rw [h.1]; exact hk)]
  rfl
/-- The first m of n elements. -/
theorem CellsAt.take {w : World} {A : Option Addr} {n : Nat} {xs : List Value} (h : CellsAt w A n xs) (m : Nat) (hm : m ≤ n) : CellsAt w A m (xs.take m) :=
  ⟨by rw [List.length_take, h.1]; omega, by have := h.2.1; omega, fun h0 => let ⟨b, off, e, hl, hc⟩ := h.2.2 (by omega); ⟨b, off, e, hl, fun j hj => by rw [hc j (by omega), List.getElem?_take_of_lt hj]⟩⟩

def ints (xs : List Int) : List Value := xs.map (Value.int .i64)
theorem ints_length (xs : List Int) : (ints xs).length = xs.length := by simp [ints]
theorem ints_getD (xs : List Int) (k : Nat) (h : k < xs.length) : (ints xs).getD k undef = .int .i64 (xs.getD k 0) := by
  simp [ints, List.getD_eq_getElem?_getD, List.getElem?_eq_getElem h]
theorem ints_one (xs : List Int) : ∀ u ∈ ints xs, u.oneCell' = true := by
  intro u hu
  obtain ⟨_, _, rfl⟩ := List.mem_map.1 hu
  rfl
theorem ints_append (xs ys : List Int) : ints (xs ++ ys) = ints xs ++ ints ys := by simp [ints]
theorem ints_take (xs : List Int) (k : Nat) : (ints xs).take k = ints (xs.take k) := by simp [ints]
theorem ints_set (xs : List Int) (k : Nat) (v : Int) : (ints xs).set k (.int .i64 v) = ints (xs.set k v) := by simp [ints]

abbrev IntsAt (w : World) (A : Option Addr) (n : Nat) (xs : List Int) : Prop := CellsAt w A n (ints xs)
theorem IntsAt.at_ {w : World} {A : Option Addr} {n : Nat} {xs : List Int} (h : IntsAt w A n xs) (k : Nat) (hk : k < n) :
    ∃ b off, A = some ⟨b, off, none⟩ ∧ w.cell? ⟨b, off + k, none⟩ = some (.int .i64 (xs.getD k 0)) := by
  obtain ⟨b, off, e, hc⟩ := CellsAt.at_ h k hk
  refine ⟨b, off, e, ?_⟩
  rw [hc, ints_getD _ _ (by have := h.1; rw [ints_length] at this; omega)]
theorem IntsAt.length {w : World} {A : Option Addr} {n : Nat} {xs : List Int} (h : IntsAt w A n xs) : xs.length = n := by
  have := h.1; rwa [ints_length] at this

/-- What is owned reads so. -/
theorem owns_cells {w : World} {base : Nat} {e : TypeId} {v : Value} {n : Nat} {xs : List Value} (h : w.ownsRow base e 1 v n xs) :
    ∃ A c, v = .slice A n c ∧ CellsAt w A n xs := by
  obtain ⟨hl, h0 | ⟨g, cap, cur, rfl, hg, hh, hn, hc, hs, ht⟩⟩ := id h
  · obtain ⟨rfl, rfl⟩ := h0
    obtain rfl : xs = [] := List.eq_nil_of_length_eq_zero (by simpa using hl)
    exact ⟨none, 0, rfl, CellsAt.nil _ _⟩
  · refine ⟨_, cap, rfl, by simpa using hl, by unfold maxLen at hc; omega, fun _ => ⟨g, 0, rfl, (Array.getElem?_eq_some_iff.1 hh).1, fun j hj => ?_⟩⟩
    rw [Nat.zero_add]
    exact h.cellAt j (by omega)

/-- A type of slices whose elements have one cell. -/
structure OneTy (P : Program) (t e : TypeId) (z : Value) (bytes : Nat) : Prop where
  ht : P.underlying t = some (.slice e)
  info : (P.info? e).map (fun i => (i.zero, i.size, i.bytes)) = some (some z, 1, bytes)
  hz : z.cells.size = 1

/-- 'append(own, xs...)', whatever xs: nil, empty, or not. -/
theorem wpList_append_src {P : Program} {w : World} {ops : Array Oper} {rest : List Oper} {o : Oper} {a : Act} {Q : Exit → Act → World → Prop}
    (t e : TypeId) (z : Value) (bytes base : Nat) (T : OneTy P t e z bytes) (s x : Operand) (hgd : o.guard = none)
    (ho : o.op = .call { callee := .builtin .append, args := #[s, x], argTypes := #[t, t] })
    (v : Value) (n : Nat) (xs : List Value) (hs : a.eval s = v) (hown : w.ownsRow base e 1 v n xs)
    (A : Option Addr) (m c : Nat) (news : List Value) (hx : a.eval x = .slice A m c) (hnone : A = none → m = 0 ∧ c = 0) (hsrc : CellsAt w A m news) (h1 : ∀ u ∈ news, u.oneCell' = true)
    (hbytes : (n + m) * bytes ≤ 140737488355328) (hb0 : 0 < bytes) (hbase : base ≤ w.heap.size)
    (h : ∀ v' w', w'.ownsRow base e 1 v' (n + m) (xs ++ news) → w.grownBy w' v.ownBlock → (v' = .slice none 0 0 ↔ v = .slice none 0 0 ∧ m = 0) → (v'.ownBlock = v.ownBlock ∨ v'.ownBlock = some w.heap.size) → wpList P ops Q rest (a.put o.dst v') w') :
    wpList P ops Q (o :: rest) a w := by
  obtain ⟨i, hi, hz0, hz1, hz2⟩ := info_parts T.info
  have hlen : n + m ≤ 140737488355328 := Nat.le_trans (Nat.le_mul_of_pos_right _ hb0) hbytes
  cases A with
  | none =>
    obtain ⟨rfl, rfl⟩ := hnone rfl
    obtain rfl : news = [] := List.eq_nil_of_length_eq_zero hsrc.1
    refine wpList_append_own_none hgd s x t ho base e i 1 T.ht hi v n xs hs hown hx (h v w (by simpa using hown) (World.grownBy.refl _ _) (by simp) (.inl rfl))
  | some ad =>
    refine wpList_append_own_at w hgd s x t ho base e i z 1 bytes T.ht hi hz0 hz1 hz2 T.hz (by omega) v n xs hs hown ad m c news hx (by simpa using hsrc.1) ?_ h1 (by unfold maxLen; omega) hbytes hbase h
    intro j u hu
    have hj : j < m := by have := (List.getElem?_eq_some_iff.1 hu).1; rwa [hsrc.1] at this
    obtain ⟨b, off, e1, _, hc⟩ := hsrc.2.2 (by omega)
    obtain rfl := Option.some.inj e1
    rw [Addr.add_lit, hc j hj]
    exact hu

/-- A row that a literal has just made. -/
theorem own_new (w : World) (e : TypeId) (cs : Array Value) (n base : Nat) (hn : cs.size = n) (hm : n ≤ 9223372036854775807) (hb : base ≤ w.heap.size) :
    (w.alloc (.cells cs e)).ownsRow base e 1 (.slice (some ⟨w.heap.size, 0, none⟩) n n) n cs.toList := by
  subst hn
  refine ⟨by simp, .inr ⟨w.heap.size, cs.size, cs, rfl, hb, heap_alloc_new _ _, Nat.le_refl _, by unfold maxLen; omega, by simp, by rw [Nat.mul_one]; exact List.take_of_length_le (by simp)⟩⟩

/-- The cells of a block that has just been made. -/
theorem cells_new (w : World) (cs : List Value) (e : TypeId) (h : cs.length ≤ 9223372036854775807 := by simp) : CellsAt (w.alloc (.cells cs.toArray e)) (some ⟨w.heap.size, 0, none⟩) cs.length cs :=
  ⟨rfl, h, fun _ => ⟨w.heap.size, 0, rfl, by simp, fun j hj => by
    rw [World.cell?_of_block (w' := w.alloc (.cells cs.toArray e)) rfl]
    simp only [World.cell?, heap_alloc_new, Nat.zero_add]
    simp⟩⟩

theorem grown_of_below {w w1 : World} (h : Below w.heap.size w w1) (row : Option Nat) : w.grownBy w1 row := ⟨h.os, h.tape, h.output, h.size, fun i hi _ => h.block i hi⟩
theorem pw_own_below {w w1 : World} {base : Nat} {e : TypeId} {size n : Nat} {v : Value} {xs : List Value} (h : w.ownsRow base e size v n xs) (hb : Below w.heap.size w w1) : w1.ownsRow base e size v n xs :=
  h.kept (grown_of_below hb none) (by cases v.ownBlock <;> simp)

/-! Contracts inside a region that only reads. -/
theorem quiet_l {P : Program} {f : FuncId} {args : Array Value} {w : World} {n : Nat} {v : Value}
    (h : Calls P f args (w.drewN n) fun e w' => e = .returned v ∧ w.drewN n = w') : Calls P f args (w.drewN n) fun e w'' => e = .returned v ∧ ∃ m, w'' = w.drewN m :=
  h.mono fun _ _ ⟨he, hm⟩ => ⟨he, n, hm.symm⟩
theorem quiet_k {P : Program} {f : FuncId} {args : Array Value} {w : World} {n : Nat} {v : Value}
    (h : Calls P f args (w.drewN n) fun e w' => e = .returned v ∧ ∃ m, w' = (w.drewN n).drewN m) : Calls P f args (w.drewN n) fun e w'' => e = .returned v ∧ ∃ m, w'' = w.drewN m :=
  h.mono fun _ _ ⟨he, m, hm⟩ => ⟨he, n + m, by rw [hm, World.drewN_drewN]⟩
theorem quiet_add_l {P : Program} {f : FuncId} {args : Array Value} {w : World} {a n : Nat} {v : Value}
    (h : Calls P f args (w.drewN (a + n)) fun e w' => e = .returned v ∧ w.drewN (a + n) = w') :
    Calls P f args (w.drewN (a + n)) fun e w'' => e = .returned v ∧ ∃ m, w'' = w.drewN (a + m) :=
  h.mono fun _ _ ⟨he, hm⟩ => ⟨he, n, hm.symm⟩
theorem quiet_add_k {P : Program} {f : FuncId} {args : Array Value} {w : World} {a n : Nat} {v : Value}
    (h : Calls P f args (w.drewN (a + n)) fun e w' => e = .returned v ∧ ∃ m, w' = (w.drewN (a + n)).drewN m) :
    Calls P f args (w.drewN (a + n)) fun e w'' => e = .returned v ∧ ∃ m, w'' = w.drewN (a + m) :=
  h.mono fun _ _ ⟨he, m, hm⟩ => ⟨he, n + m, by rw [hm, World.drewN_drewN, Nat.add_assoc]⟩

theorem Calls.world_eq {P : Program} {f : FuncId} {args : Array Value} {w : World} {e0 : Ending} (h : Calls P f args w fun e w' => e = e0 ∧ w = w') :
    Calls P f args w fun e w' => e = e0 ∧ ∃ k, w' = w.drewN k := h.mono fun _ _ ⟨a, b⟩ => ⟨a, 0, b.symm⟩
theorem below_drewN {B : Nat} {a w : World} (h : Below B a w) (n : Nat) : Below B a (w.drewN n) := h.trans ⟨rfl, rfl, rfl, Nat.le_refl _, fun _ _ => rfl⟩
theorem below_alloc {w : World} (o : Obj) : Below w.heap.size w (w.alloc o) := (Below.refl _ _).alloc (Nat.le_refl _) _
/-- Two steps, each new memory alone. -/
theorem below_then {a b c : World} (h : Below a.heap.size a b) (k : Below b.heap.size b c) : Below a.heap.size a c := h.trans (k.mono h.size)
end Go.Proofs.YtnhajhejkecihaaDoor
/- Laws that texts on disks and journals share: what a call may turn; rows of bytes; append of zeros; copy. -/
namespace Go.Proofs.YtnhajhejkecihaaDoor
open Go.RowKit
set_option linter.unusedVariables false

/-! ### What a call may turn: the blocks of F, and new ones -/
structure Keep (F : Nat → Prop) (w w' : World) : Prop where
  os : w'.os = w.os
  tape : w'.tape = w.tape
  output : w'.output = w.output
  size : w.heap.size ≤ w'.heap.size
  block : ∀ k, k < w.heap.size → ¬ F k → w'.heap[k]? = w.heap[k]?
theorem Keep.refl (F : Nat → Prop) (w : World) : Keep F w w := ⟨rfl, rfl, rfl, Nat.le_refl _, fun _ _ _ => rfl⟩
theorem Keep.trans {F : Nat → Prop} {a b c : World} (h : Keep F a b) (k : Keep F b c) : Keep F a c :=
  ⟨k.os.trans h.os, k.tape.trans h.tape, k.output.trans h.output, Nat.le_trans h.size k.size, fun i hi hf => (k.block i (Nat.lt_of_lt_of_le hi h.size) hf).trans (h.block i hi hf)⟩
/-- The second step may turn what the first has made, too. -/
theorem Keep.then {F F' : Nat → Prop} {a b c : World} (h : Keep F a b) (k : Keep F' b c) (hF : ∀ i, F' i → F i ∨ a.heap.size ≤ i) : Keep F a c :=
  ⟨k.os.trans h.os, k.tape.trans h.tape, k.output.trans h.output, Nat.le_trans h.size k.size, fun i hi hf => (k.block i (Nat.lt_of_lt_of_le hi h.size) (fun h' => by rcases hF i h' with h1 | h1; exact hf h1; omega)).trans (h.block i hi hf)⟩
theorem Keep.mono {F F' : Nat → Prop} {w w' : World} (h : Keep F w w') (hF : ∀ i, F i → F' i) : Keep F' w w' := ⟨h.os, h.tape, h.output, h.size, fun i hi hf => h.block i hi (fun h' => hf (hF i h'))⟩
theorem Keep.of_below {F : Nat → Prop} {w w' : World} (h : Below w.heap.size w w') : Keep F w w' := ⟨h.os, h.tape, h.output, h.size, fun i hi _ => h.block i hi⟩
theorem Keep.below {F : Nat → Prop} {w w' : World} {B : Nat} (h : Keep F w w') (hF : ∀ i, F i → B ≤ i) (hB : B ≤ w.heap.size) : Below B w w' :=
  ⟨h.os, h.tape, h.output, h.size, fun i hi => h.block i (by omega) (fun h' => by have := hF i h'; omega)⟩
theorem Keep.drewN {F : Nat → Prop} {w w' : World} (h : Keep F w w') (n : Nat) : Keep F w (w'.drewN n) := ⟨h.os, h.tape, h.output, h.size, h.block⟩
theorem Keep.drew {F : Nat → Prop} {w w' : World} (h : Keep F w w') : Keep F w w'.drew := ⟨h.os, h.tape, h.output, h.size, h.block⟩
theorem Keep.alloc {F : Nat → Prop} {w w' : World} (h : Keep F w w') (o : Obj) : Keep F w (w'.alloc o) := h.then (Keep.of_below (F := F) (below_alloc o)) (fun _ h => .inl h)
theorem Keep.setCell {F : Nat → Prop} {w w' : World} (h : Keep F w w') {a : Addr} (ha : F a.block ∨ w.heap.size ≤ a.block) (v : Value) : Keep F w (w'.setCell a v) :=
  h.then (F' := fun k => k = a.block) ⟨rfl, rfl, rfl, by simp [World.setCell], fun k _ hk => Below.heap_setCell _ _ _ _ hk⟩ (fun i hi => by rw [hi]; exact ha)
theorem Keep.grown {F : Nat → Prop} {w w' w2 : World} {row : Option Nat} (h : Keep F w w') (hg : w'.grownBy w2 row) (hr : ∀ k, row = some k → F k ∨ w.heap.size ≤ k) : Keep F w w2 :=
  h.then (F' := fun k => row = some k) ⟨hg.os, hg.tape, hg.output, hg.size, fun k hk hn => hg.block k hk (fun e => hn e.symm)⟩ hr
theorem Keep.cell {F : Nat → Prop} {w w' : World} (h : Keep F w w') {p : Addr} (hp : p.block < w.heap.size) (hF : ¬ F p.block) : w'.cell? p = w.cell? p := World.cell?_of_block (w := w) (h.block p.block hp hF)
theorem Keep.own {F : Nat → Prop} {w w' : World} {base n size : Nat} {e : TypeId} {v : Value} {xs : List Value} (h : Keep F w w') (ho : w.ownsRow base e size v n xs) (hne : ∀ b, v.ownBlock = some b → ¬ F b) : w'.ownsRow base e size v n xs := by
  obtain ⟨hl, h0 | ⟨g, cap, cur, rfl, hg, hh, hr⟩⟩ := ho
  · exact ⟨hl, .inl h0⟩
  · exact ⟨hl, .inr ⟨g, cap, cur, rfl, hg, (h.block g (Array.getElem?_eq_some_iff.1 hh).1 (hne g rfl)).trans hh, hr⟩⟩
theorem CellsAt.keep {F : Nat → Prop} {w w' : World} {A : Option Addr} {n : Nat} {xs : List Value} (hc : CellsAt w A n xs) (h : Keep F w w') (hne : ∀ b, A = some b → ¬ F b.block) : CellsAt w' A n xs :=
  ⟨hc.1, hc.2.1, fun h0 => let ⟨b, off, e, hl, hx⟩ := hc.2.2 h0; ⟨b, off, e, Nat.lt_of_lt_of_le hl h.size, fun j hj => (h.cell (p := ⟨b, off + j, none⟩) hl (show ¬ F b from hne _ e)).trans (hx j hj)⟩⟩
theorem own_lt {w : World} {base n size : Nat} {e : TypeId} {v : Value} {xs : List Value} (h : w.ownsRow base e size v n xs) : ∀ k, v.ownBlock = some k → k < w.heap.size := fun k hk => (h.lt k hk).2
theorem own_base {w : World} {base n size : Nat} {e : TypeId} {v : Value} {xs : List Value} (h : w.ownsRow base e size v n xs) (base' : Nat) (hb : ∀ k, v.ownBlock = some k → base' ≤ k) : w.ownsRow base' e size v n xs := by
  obtain ⟨hl, h0 | ⟨g, cap, cur, rfl, hg, hr⟩⟩ := h
  · exact ⟨hl, .inl h0⟩
  · exact ⟨hl, .inr ⟨g, cap, cur, rfl, hb g rfl, hr⟩⟩
theorem own_zero {w : World} {base n size : Nat} {e : TypeId} {v : Value} {xs : List Value} (h : w.ownsRow base e size v n xs) : w.ownsRow 0 e size v n xs := own_base h 0 (fun _ _ => Nat.zero_le _)
/-- An owned row's block bears its elements' type. -/
theorem own_type {w : World} {base n size : Nat} {e : TypeId} {v : Value} {xs : List Value} (h : w.ownsRow base e size v n xs) {k : Nat} (hk : v.ownBlock = some k) : ∃ cur, w.heap[k]? = some (.cells cur e (0, 0)) := by
  obtain ⟨hl, ⟨rfl, _⟩ | ⟨g, cap, cur, rfl, hg, hh, _⟩⟩ := h
  · simp [Value.ownBlock] at hk
  · have : g = k := by simpa [Value.ownBlock] using hk
    subst this
    exact ⟨cur, hh⟩
theorem own_slice {w : World} {base n size : Nat} {e : TypeId} {v : Value} {xs : List Value} (h : w.ownsRow base e size v n xs) : ∃ A c, v = .slice A n c := by
  obtain ⟨_, ⟨rfl, rfl⟩ | ⟨g, cap, cur, rfl, _⟩⟩ := h
  · exact ⟨none, 0, rfl⟩
  · exact ⟨_, cap, rfl⟩

/-! ### Bytes -/
def b8 (l : List UInt8) : List Value := l.map fun b => .int .u8 (b.toNat : Int)
theorem b8_length (l : List UInt8) : (b8 l).length = l.length := by simp [b8]
theorem b8_append (l m : List UInt8) : b8 (l ++ m) = b8 l ++ b8 m := by simp [b8]
theorem b8_take (l : List UInt8) (n : Nat) : (b8 l).take n = b8 (l.take n) := by simp [b8]
theorem b8_drop (l : List UInt8) (n : Nat) : (b8 l).drop n = b8 (l.drop n) := by simp [b8]
theorem b8_zeros (n : Nat) : List.replicate n (Value.int .u8 0) = b8 (List.replicate n 0) := by simp [b8]
theorem b8_one (l : List UInt8) : ∀ u ∈ b8 l, u.oneCell' = true := by
  intro u hu
  obtain ⟨_, _, rfl⟩ := List.mem_map.1 hu
  rfl

/-! ### append(v, make([]T, n)...) -/
theorem zeroCells_one (z : Value) (n : Nat) : Builtin.zeroCells #[z] n = (List.replicate n z).toArray := by
  apply Array.ext
  · simp [Builtin.zeroCells]
  · intro i h1 h2
    simp [Builtin.zeroCells, Nat.mod_one]
section
variable {P : Program} (w : World)
theorem run_zeros_room (t tn ty e : TypeId) (i : TypeInfo) (z : Value) (k kn : IntKind) (ht : P.underlying t = some (.slice e)) (htn : P.underlying tn = some (.int kn)) (hi : P.info? e = some i) (hz : i.zero = some z) (hz1 : z.cells = #[z]) (hs : i.size = 1) (hoc : z.oneCell' = true)
    (g sLen sCap : Nat) (cur : Array Value) (hg : w.heap[g]? = some (.cells cur e (0, 0))) (m : Nat) (hm : 0 < m) (hmb : m * i.bytes ≤ 281474976710656) (hm63 : m ≤ 281474976710656) (hroom : sLen + m ≤ sCap) (hfit : sLen + m ≤ cur.size) :
    (Builtin.append_ #[t, tn] ty #[.slice (some ⟨g, 0, none⟩) sLen sCap, .int k m]).run P w =
      .ok (.slice (some ⟨g, 0, none⟩) (sLen + m) sCap) (w.setRow g (cur.toList.take sLen ++ List.replicate m z ++ cur.toList.drop (sLen + m)).toArray) := by
  have hst := run_storeCells_at P g sLen e (List.replicate m z) 0 cur w hg (by simpa using hfit) (by intro u hu; rw [List.eq_of_mem_replicate hu]; exact hoc)
  simp only [Nat.add_zero, List.length_replicate] at hst
  have hw : IntKind.i64.wrap (m : Int) = m := by rw [IntKind.wrap_i64]; omega
  have hneg : ¬ ((m : Int) < 0) := by omega
  have h48i : ¬ (281474976710656 < (m : Int) * (i.bytes : Int)) := by
    rw [← Int.natCast_mul]
    omega
  have hne : ¬ (m = 0) := by omega
  have hzc : Builtin.zeroCells z.cells m = (List.replicate m z).toArray := by rw [hz1]; exact zeroCells_one z m
  simp [Builtin.append_, run_underlying ht, run_underlying htn, sizeOf, typeInfo, zeroValue, hi, hz, asInt, asIntOf, hw, hneg, h48i, hs, hne, hroom, Addr.add_lit, hzc, hst]

theorem run_zeros_own (base : Nat) (t tn ty e : TypeId) (i : TypeInfo) (z : Value) (bytes : Nat) (k kn : IntKind) (ht : P.underlying t = some (.slice e)) (htn : P.underlying tn = some (.int kn)) (hi : P.info? e = some i) (hz : i.zero = some z) (hz1 : z.cells = #[z]) (hs : i.size = 1) (hby : i.bytes = bytes) (hoc : z.oneCell' = true)
    (v : Value) (n : Nat) (xs : List Value) (hown : w.ownsRow base e 1 v n xs) (m : Nat) (hm : 0 < m) (hbytes : (n + m) * bytes ≤ 140737488355328) (hb0 : 0 < bytes) (hbase : base ≤ w.heap.size) :
    ∃ v' w', (Builtin.append_ #[t, tn] ty #[v, .int k m]).run P w = .ok v' w' ∧ w'.ownsRow base e 1 v' (n + m) (xs ++ List.replicate m z) ∧ w.grownBy w' v.ownBlock ∧ (v'.ownBlock = v.ownBlock ∨ v'.ownBlock = some w.heap.size) := by
  subst hby
  have hlen0 : n + m ≤ 140737488355328 := Nat.le_trans (Nat.le_mul_of_pos_right _ hb0) hbytes
  have h63 : n + m ≤ maxLen := by unfold maxLen; omega
  have hmb : m * i.bytes ≤ 281474976710656 := by
    have : m * i.bytes ≤ (n + m) * i.bytes := Nat.mul_le_mul_right _ (by omega)
    omega
  have hlen : (xs ++ List.replicate m z).length = (n + m) * 1 := by rw [List.length_append, hown.1, List.length_replicate]; omega
  have hzc : ∀ q, Builtin.zeroCells z.cells q = (List.replicate q z).toArray := fun q => by rw [hz1]; exact zeroCells_one z q
  have grown : ∀ (old : Nat), old < n + m → ∀ (row : Option Nat),
      (w.drew.alloc (.cells (xs.toArray ++ Builtin.zeroCells z.cells m ++ Builtin.zeroCells z.cells (grownCap w (n + m) old e - (n + m))) e)).ownsRow base e 1
        (.slice (some ⟨w.heap.size, 0, none⟩) (n + m) (grownCap w (n + m) old e)) (n + m) (xs ++ List.replicate m z) ∧
      w.grownBy (w.drew.alloc (.cells (xs.toArray ++ Builtin.zeroCells z.cells m ++ Builtin.zeroCells z.cells (grownCap w (n + m) old e - (n + m))) e)) row := by
    intro old ho row
    have hge := grownCap_ge w (n + m) old e
    have hcm : grownCap w (n + m) old e ≤ maxLen := grownCap_le_maxLen w (n + m) old e h63
    refine ⟨⟨hlen, .inr ⟨w.heap.size, _, _, rfl, hbase, heap_alloc_new w.drew _, hge, hcm, ?_, ?_⟩⟩, ⟨rfl, rfl, rfl, by simp, fun k hk _ => Below.heap_alloc w.drew _ k hk⟩⟩
    · have := hown.1
      simp only [hzc, Array.size_append, List.size_toArray, List.length_replicate]
      omega
    · simp only [hzc, Array.toList_append, List.append_assoc]
      rw [← List.append_assoc, ← hlen]
      exact List.take_left
  rcases hown.2 with ⟨rfl, rfl⟩ | ⟨g, cap, cur, rfl, hbg, hg, hnc, hcm, hcs, htake⟩
  · have hx : xs = [] := List.eq_nil_of_length_eq_zero (by simpa using hown.1)
    subst hx
    have hr := Lib.run_append_nil_zeros (P := P) w t tn ty e i z k kn ht htn hi hz m hm (by omega) (by omega) hmb
    have hgr := grown 0 (by omega) (Value.ownBlock (.slice none 0 0))
    simp only [Nat.zero_add, List.nil_append, Array.empty_append] at hgr ⊢
    exact ⟨_, _, hr, hgr.1, hgr.2, .inr rfl⟩
  · by_cases hroom : n + m ≤ cap
    · have hfit : n + m ≤ cur.size := by omega
      have hr := run_zeros_room (P := P) w t tn ty e i z k kn ht htn hi hz hz1 hs hoc g n cap cur hg m hm hmb (by omega) hroom hfit
      refine ⟨_, _, hr, ⟨hlen, .inr ⟨g, cap, _, rfl, hbg, setRow_heap w g cur _ e _ hg, hroom, hcm, ?_, ?_⟩⟩, ⟨rfl, rfl, rfl, by simp, fun k _ hk => setRow_other w g k _ (fun e => hk (by simp [Value.ownBlock, e]))⟩, .inl rfl⟩
      · simp only [List.size_toArray, List.length_append, List.length_take, List.length_drop, Array.length_toList, List.length_replicate]
        omega
      · rw [Nat.mul_one] at htake
        rw [htake, ← hlen]
        exact List.take_left
    · have hold : (Builtin.firstCells i.size n (.slice (some ⟨g, 0, none⟩) n cap)).run P w.drew = .ok xs.toArray w.drew := by
        have holds : ∀ j u, xs[j]? = some u → w.drew.cell? ((⟨g, 0, none⟩ : Addr).add j) = some u := hown.cells (g := g) rfl
        have := run_firstCells_some (P := P) w.drew i.size n ⟨g, 0, none⟩ n cap xs (by rw [hs]; exact hown.1) holds
        exact this
      have hr := Lib.run_append_grow_zeros (P := P) w t tn ty e i z k kn ht htn hi hz (some ⟨g, 0, none⟩) n cap xs hold m hm (by omega) (by omega) (by omega) hmb (growslice_fits (by omega) hbytes)
      have hgr := grown cap (by omega) (Value.ownBlock (.slice (some ⟨g, 0, none⟩) n cap))
      exact ⟨_, _, hr, hgr.1, hgr.2, .inr rfl⟩
end
/-- 'append(v, make([]T, m)...)', m not 0. -/
theorem wpList_append_zeros {P : Program} {w : World} {ops : Array Oper} {rest : List Oper} {o : Oper} {a : Act} {Q : Exit → Act → World → Prop} (hgd : o.guard = none)
    (t tn e : TypeId) (z : Value) (bytes base : Nat) (kn : IntKind) (s x : Operand)
    (ho : o.op = .call { callee := .builtin .append, args := #[s, x], argTypes := #[t, tn] })
    (T : OneTy P t e z bytes) (htn : P.underlying tn = some (.int kn)) (hz1 : z.cells = #[z]) (hoc : z.oneCell' = true) (hb0 : 0 < bytes)
    (v : Value) (hs : a.eval s = v) (n : Nat) (xs : List Value) (k : IntKind) (M : Int) (hx : a.eval x = .int k M) (m : Nat) (hM : M = m) (hm : 0 < m) (hown : w.ownsRow base e 1 v n xs) (hbytes : (n + m) * bytes ≤ 140737488355328) (hbase : base ≤ w.heap.size)
    (h : ∀ v' w', w'.ownsRow base e 1 v' (n + m) (xs ++ List.replicate m z) → w.grownBy w' v.ownBlock → (v'.ownBlock = v.ownBlock ∨ v'.ownBlock = some w.heap.size) → wpList P ops Q rest (a.put o.dst v') w') :
    wpList P ops Q (o :: rest) a w := by
  subst hM
  obtain ⟨i, hi, hz0, hs1, hby⟩ := info_parts T.info
  obtain ⟨v', w', hr, h2, h3, h4⟩ := run_zeros_own (P := P) w base t tn o.type e i z bytes k kn T.ht htn hi hz0 hz1 hs1 hby hoc v n xs hown m hm hbytes hb0 hbase
  exact Lib.wpList_append_run w hgd s x t tn ho v (.int k m) hs hx v' w' hr (h v' w' h2 h3 h4)

/-! ### copy(own[off:], xs) -/
theorem take_three {α : Type} (A N D : List α) (n : Nat) (h : A.length + N.length ≤ n) : (A ++ (N ++ D)).take n = A ++ (N ++ D.take (n - A.length - N.length)) := by
  rw [List.take_append, List.take_of_length_le (show A.length ≤ n by omega), List.take_append, List.take_of_length_le (show N.length ≤ n - A.length by omega)]
/-- 'copy(v[off:], xs)': the row's cells from off on are xs. 'A': the address of the cut, which Go leaves where it was if the cut is empty. -/
theorem wpList_copy_row {P : Program} {w : World} {ops : Array Oper} {rest : List Oper} {o : Oper} {a : Act} {Q : Exit → Act → World → Prop} (hgd : o.guard = none) (d s : Operand) (t e : TypeId) (z : Value) (bytes base : Nat) (T : OneTy P t e z bytes)
    (ho : o.op = .call { callee := .builtin .copy, args := #[d, s], argTypes := #[t, t] })
    (v : Value) (n : Nat) (xs : List Value) (hown : w.ownsRow base e 1 v n xs) (off : Nat) (A : Option Addr) (L C : Nat) (hd : a.eval d = .slice A L C) (hL : L = n - off)
    (B : Option Addr) (m c : Nat) (hs : a.eval s = .slice B m c) (news : List Value) (hsrc : CellsAt w B m news) (hfit : off + m ≤ n) (hA : 0 < m → ∀ g, v.ownBlock = some g → A = some ⟨g, off, none⟩) (h1 : ∀ u ∈ news, u.oneCell' = true)
    (h : ∀ w', w'.ownsRow base e 1 v n (xs.take off ++ (news ++ xs.drop (off + m))) → w.grownBy w' v.ownBlock → wpList P ops Q rest (a.put o.dst (goInt m)) w') :
    wpList P ops Q (o :: rest) a w := by
  have hsz : (P.info? e).map (·.size) = some 1 := by
    obtain ⟨i, hi, _, hs1, _⟩ := info_parts T.info
    rw [hi]; simp [hs1]
  have hmin : Nat.min m L = m := Nat.min_eq_left (by omega)
  by_cases hm : m = 0
  · subst hm
    obtain rfl : news = [] := List.eq_nil_of_length_eq_zero hsrc.1
    refine wpList_copy_nothing hgd d s t t ho e T.ht hsz A B L C 0 c hd hs (by simp) ?_
    exact h w (by simpa using hown) (World.grownBy.refl _ _)
  · obtain ⟨hl, ⟨rfl, rfl⟩ | ⟨g, cap, cur, rfl, hg, hh, hn, hc, hcs, htake⟩⟩ := id hown
    · omega
    · have hA' := hA (by omega) g rfl
      subst hA'
      obtain ⟨b, boff, rfl, hblt, hcell⟩ := hsrc.2.2 (by omega)
      have hnl : news.length = m := hsrc.1
      refine wpList_copy_own hgd d s t t ho e T.ht hsz g off L C ⟨b, boff, none⟩ m c hd hs cur e hh news (by rw [hmin, hnl]) ?_ (by omega) h1 ?_
      · intro j u hu
        have hj : j < m := by have := (List.getElem?_eq_some_iff.1 hu).1; rwa [hnl] at this
        rw [Addr.add_lit, hcell j hj]
        exact hu
      · rw [hnl]
        refine h _ ⟨by simp at hl ⊢; omega, .inr ⟨g, cap, _, rfl, hg, setRow_heap w g cur _ e _ hh, hn, hc, ?_, ?_⟩⟩ ⟨rfl, rfl, rfl, by simp, fun k _ hk => setRow_other w g k _ (fun e => hk (by simp [Value.ownBlock, e]))⟩
        · simp only [List.size_toArray, List.length_append, List.length_take, List.length_drop, Array.length_toList]
          omega
        · rw [Nat.mul_one] at htake ⊢
          have e1 : cur.toList.take off = xs.take off := by rw [← htake, List.take_take, Nat.min_eq_left (by omega)]
          have hxl : xs.length = n := by simpa using hl
          have e2 : (cur.toList.drop (off + m)).take (n - (off + m)) = xs.drop (off + m) := by rw [← htake, List.drop_take]
          have hcl : cur.toList.length = cap := by simpa using hcs
          show List.take n (cur.toList.take off ++ (news ++ cur.toList.drop (off + m))) = xs.take off ++ (news ++ xs.drop (off + m))
          rw [e1, ← e2]
          have l1 : (xs.take off).length = off := by simp; omega
          rw [take_three _ _ _ _ (by omega), l1, hnl, Nat.sub_sub]
end Go.Proofs.YtnhajhejkecihaaDoor
/- append of any source onto an owned row, in a region that draws its order; the beginning of an owned row. -/
namespace Go.Proofs.YtnhajhejkecihaaDoor
open Go.RowKit
set_option linter.unusedVariables false

theorem own_none {w : World} {base : Nat} {e : TypeId} {v : Value} {n : Nat} {xs : List Value} (h : w.ownsRow base e 1 v n xs) : ∃ A c, v = .slice A n c ∧ (A = none → n = 0 ∧ c = 0) ∧ CellsAt w A n xs := by
  obtain ⟨A, c, rfl, hc⟩ := owns_cells h
  refine ⟨A, c, rfl, ?_, hc⟩
  rintro rfl
  obtain ⟨_, ⟨h1, h2⟩ | ⟨g, cap, cur, h1, _⟩⟩ := h
  · injection h1 with _ _ h3
    exact ⟨h2, h3⟩
  · cases h1
/-- v[:0] -/
theorem own_zero_len {w : World} {base : Nat} {e : TypeId} {A : Option Addr} {c n : Nat} {xs : List Value} (h : w.ownsRow base e 1 (.slice A n c) n xs) : w.ownsRow base e 1 (.slice A 0 c) 0 [] := by
  obtain ⟨hl, ⟨h1, rfl⟩ | ⟨g, cap, cur, h1, hg, hh, hn, hc, hs, ht⟩⟩ := h
  · cases h1
    exact World.ownsRow_nil _ _ _ _
  · cases h1
    exact ⟨rfl, .inr ⟨g, _, cur, rfl, hg, hh, Nat.zero_le _, hc, hs, by simp⟩⟩

/-- 'append(own, xs...)', whatever xs: nil, empty, or not: at a step of a region that draws. -/
theorem step_append_src {P : Program} {w : World} {ops : Array Oper} {o : Oper} {a : Act} {K : Act → World → Prop} {Q : Exit → Act → World → Prop} {E : Prop} (hgd : o.guard = none)
    (t e : TypeId) (z : Value) (bytes base : Nat) (T : OneTy P t e z bytes) (s x : Operand)
    (ho : o.op = .call { callee := .builtin .append, args := #[s, x], argTypes := #[t, t] })
    (v : Value) (n : Nat) (xs : List Value) (hs : a.eval s = v) (hown : w.ownsRow base e 1 v n xs)
    (A : Option Addr) (m c : Nat) (news : List Value) (hx : a.eval x = .slice A m c) (hnone : A = none → m = 0 ∧ c = 0) (hsrc : CellsAt w A m news) (h1 : ∀ u ∈ news, u.oneCell' = true)
    (hbytes : (n + m) * bytes ≤ 140737488355328) (hb0 : 0 < bytes) (hbase : base ≤ w.heap.size)
    (h : ∀ A' c' w', w'.ownsRow base e 1 (.slice A' (n + m) c') (n + m) (xs ++ news) → w.grownBy w' v.ownBlock → ((Value.slice A' (n + m) c').ownBlock = v.ownBlock ∨ (Value.slice A' (n + m) c').ownBlock = some w.heap.size) → K (a.put o.dst (.slice A' (n + m) c')) w') :
    if Region.wanted o (yielded ops a.tmps) = true then Oper.wp P o a w K Q else E := by
  have hw : Region.wanted o (yielded ops a.tmps) = true := by simp [Region.wanted, hgd]
  rw [if_pos hw]
  obtain ⟨i, hi, hz0, hz1, hz2⟩ := info_parts T.info
  have hlen : n + m ≤ 140737488355328 := Nat.le_trans (Nat.le_mul_of_pos_right _ hb0) hbytes
  obtain ⟨A0, c0, rfl⟩ := own_slice hown
  cases A with
  | none =>
    obtain ⟨rfl, rfl⟩ := hnone rfl
    obtain rfl : news = [] := List.eq_nil_of_length_eq_zero hsrc.1
    have hrun := run_append_owned_none (P := P) (w := w) base t o.type e i 1 T.ht hi _ n xs hown
    unfold Oper.wp
    simp [execOp, ho, resolve, invoke, builtin, hs, hx, hrun, Result.andThen]
    exact h A0 c0 w (by simpa using hown) (World.grownBy.refl _ _) (.inl rfl)
  | some ad =>
    obtain ⟨v', w', hr, h2, h3, h4, h5⟩ := run_append_own_at (P := P) w base t o.type e i z 1 bytes T.ht hi hz0 hz1 hz2 T.hz (by omega) _ n xs hown ad m c news (by simpa using hsrc.1) (by
      intro j u hu
      have hj : j < m := by have := (List.getElem?_eq_some_iff.1 hu).1; rwa [hsrc.1] at this
      obtain ⟨b, off, e1, _, hc⟩ := hsrc.2.2 (by omega)
      obtain rfl := Option.some.inj e1
      rw [Addr.add_lit, hc j hj]
      exact hu) h1 (by unfold maxLen; omega) hbytes hbase
    obtain ⟨A', c', rfl⟩ := own_slice h2
    unfold Oper.wp execOp
    simp only [ho, resolve, invoke, builtin, Sem.run_bind, Sem.run_pure, Result.andThen_ok, List.map_toArray, List.map_cons, List.map_nil, hs, hx, hr]
    exact h A' c' w' h2 h3 h5
theorem own_len (A : Option Addr) (n m : Nat) {c : Nat} : (Value.slice A n c).ownBlock = (Value.slice A m c).ownBlock := by cases A <;> rfl
theorem grown_far {w w1 : World} {row : Option Nat} (hg : w.drew.grownBy w1 row) {p i : Nat} {v : Value} (h : w.cell? ⟨p, i, none⟩ = some v) (f : w.frozen? ⟨p, i, none⟩ = false) (hp : p < w.heap.size) (hne : some p ≠ row) :
    w1.cell? ⟨p, i, none⟩ = some v ∧ w1.frozen? ⟨p, i, none⟩ = false := by
  have hb : w1.heap[p]? = w.heap[p]? := hg.block p hp hne
  exact ⟨(World.cell?_of_block (a := ⟨p, i, none⟩) hb).trans h, (World.frozen?_of_block (a := ⟨p, i, none⟩) hb).trans f⟩
theorem keep_frozen {F : Nat → Prop} {w w' : World} (hk : Keep F w w') {a : Addr} (hp : a.block < w.heap.size) (hF : ¬ F a.block) : w'.frozen? a = w.frozen? a := World.frozen?_of_block (hk.block a.block hp hF)
theorem keep_draw (F : Nat → Prop) (w : World) : Keep F w w.drew := ⟨rfl, rfl, rfl, Nat.le_refl _, fun _ _ _ => rfl⟩
theorem grown_drew {w w' : World} {row : Option Nat} (h : w.drew.grownBy w' row) : w.grownBy w' row := ⟨h.os, h.tape, h.output, h.size, h.block⟩

end Go.Proofs.YtnhajhejkecihaaDoor
/- Words that the texts without a disk share: blocks known whole, what a step may turn, strings as lists of bytes. -/
namespace Go.Proofs.YtnhajhejkecihaaDoor
open Go.RowKit
set_option linter.unusedVariables false

abbrev Bytes := List UInt8
theorem getD_mem {α : Type} {l : List α} {i : Nat} {x : α} (h : i < l.length) : l.getD i x ∈ l := by
  rw [List.getD_eq_getElem?_getD, List.getElem?_eq_getElem h]
  exact List.getElem_mem _
theorem blk_cell {w : World} {p : Nat} {cs : Array Value} {t : TypeId} {fr : Nat × Nat} (h : w.heap[p]? = some (.cells cs t fr)) (i : Nat) : w.cell? ⟨p, i, none⟩ = cs[i]? := by simp [World.cell?, h]
theorem blk_free {w : World} {p : Nat} {cs : Array Value} {t : TypeId} (h : w.heap[p]? = some (.cells cs t (0, 0))) (i : Nat) : w.frozen? ⟨p, i, none⟩ = false := by simp [World.frozen?, h]
theorem blk_lt {w : World} {p : Nat} {o : Obj} (h : w.heap[p]? = some o) : p < w.heap.size := (Array.getElem?_eq_some_iff.1 h).1
theorem blk_set {w : World} {p : Nat} {cs : Array Value} {t : TypeId} {fr : Nat × Nat} (h : w.heap[p]? = some (.cells cs t fr)) (i : Nat) (v : Value) :
    (w.setCell ⟨p, i, none⟩ v).heap[p]? = some (.cells (cs.setIfInBounds i v) t fr) := by
  obtain ⟨hlt, hk⟩ := Array.getElem?_eq_some_iff.1 h
  show (w.heap.modify p _)[p]? = _
  rw [Array.getElem?_eq_getElem (by rw [Array.size_modify]; exact hlt), Array.getElem_modify_self, hk]
  rfl
theorem blk_below {w w' : World} {p : Nat} {o : Obj} (h : w.heap[p]? = some o) (hb : Below w.heap.size w w') : w'.heap[p]? = some o := (hb.block p (blk_lt h)).trans h

theorem keep_set {p : Nat} {w w' : World} (h : Keep (fun k => k = p) w w') (i : Nat) (v : Value) : Keep (fun k => k = p) w (w'.setCell ⟨p, i, none⟩ v) := h.setCell (a := ⟨p, i, none⟩) (.inl rfl) v
theorem cell_kept {F : Nat → Prop} {w w' : World} (hk : Keep F w w') {a : Addr} {v : Value} (h : w.cell? a = some v) (hF : ¬ F a.block) : w'.cell? a = some v := (hk.cell (World.block_lt_of_cell? _ _ h) hF).trans h
theorem blk_own_ne {w : World} {p k : Nat} {cs : Array Value} {t e : TypeId} {fr : Nat × Nat} {base size n : Nat} {v : Value} {xs : List Value} (h : w.heap[p]? = some (.cells cs t fr)) (ho : w.ownsRow base e size v n xs) (hk : v.ownBlock = some k) (hte : t ≠ e) : k ≠ p := by
  rintro rfl
  obtain ⟨cur, hc⟩ := own_type ho hk
  rw [h] at hc
  injection hc with hc
  injection hc with _ h2
  exact hte h2
theorem keep_drewN (F : Nat → Prop) (w : World) (n : Nat) : Keep F w (w.drewN n) := ⟨rfl, rfl, rfl, Nat.le_refl _, fun _ _ _ => rfl⟩
theorem Keep.alloc' {w w' : World} (h : Keep (fun _ => False) w w') (o : Obj) : Keep (fun _ => False) w (w'.alloc o) :=
  h.trans ⟨rfl, rfl, rfl, by simp, fun k hk _ => Below.heap_alloc w' o k hk⟩

/-! ### Strings as lists of bytes -/
def bs (s : ByteArray) : Bytes := s.data.toList
theorem bs_length (s : ByteArray) : (bs s).length = s.size := by
  show s.data.toList.length = s.data.size
  exact Array.length_toList
theorem bs_take (s : ByteArray) (n : Nat) : bs (s.extract 0 n) = (bs s).take n := by
  simp [bs, ByteArray.data_extract, Array.toList_extract, List.extract_eq_take_drop]
theorem bs_drop (s : ByteArray) (n : Nat) : bs (s.extract n s.size) = (bs s).drop n := by
  simp only [bs, ByteArray.data_extract, Array.toList_extract, List.extract_eq_take_drop]
  exact List.take_of_length_le (by rw [List.length_drop, Array.length_toList]; exact Nat.le_refl _)

/-- A string made of bytes. -/
def sb (l : Bytes) : ByteArray := ⟨l.toArray⟩
theorem bs_sb (l : Bytes) : bs (sb l) = l := rfl
theorem sb_bs (s : ByteArray) : sb (bs s) = s := rfl
theorem sb_size (l : Bytes) : (sb l).size = l.length := by
  show l.toArray.size = _
  simp
theorem sb_inj {l m : Bytes} (h : sb l = sb m) : l = m := by
  have := congrArg bs h
  exact this

def strs (l : List Bytes) : List Value := l.map fun r => .string (sb r)
abbrev Since (n : Nat) (w w' : World) : Prop := Keep (fun k => n ≤ k) w w'
theorem Since.mono {n m : Nat} {w w' : World} (h : Since n w w') (hm : m ≤ n) : Since m w w' := Keep.mono h (fun k hk => Nat.le_trans hm hk)
theorem since_draw (n k : Nat) (w : World) : Since n w (w.drewN k) := keep_drewN _ w k
theorem Since.of {n : Nat} {w w' : World} (h : Keep (fun _ => False) w w') : Since n w w' := Keep.mono h (fun _ => False.elim)
theorem below_since {n : Nat} {w w' : World} (h : Since n w w') (hn : n = w.heap.size) : Below w.heap.size w w' := by
  subst hn
  exact ⟨h.os, h.tape, h.output, h.size, fun k hk => h.block k hk (by omega)⟩
theorem blk_grown {W W' : World} {row : Option Nat} {b : Nat} {o : Obj} (h : W.heap[b]? = some o) (hg : W.grownBy W' row) (hr : row ≠ some b) : W'.heap[b]? = some o :=
  (hg.block b (blk_lt h) (fun e => hr e.symm)).trans h
theorem alloc_old' {w : World} {b : Nat} {o o' : Obj} (h : w.heap[b]? = some o) : (w.alloc o').heap[b]? = some o := (Below.heap_alloc _ _ _ (blk_lt h)).trans h
theorem own_low {w : World} {base : Nat} {e : TypeId} {size n k : Nat} {v : Value} {xs : List Value} (h : w.ownsRow base e size v n xs) (hk : v.ownBlock = some k) : base ≤ k := by
  rcases h.2 with ⟨rfl, _⟩ | ⟨g, cap, cur, rfl, hb, _⟩
  · simp [Value.ownBlock] at hk
  · have : g = k := by simpa [Value.ownBlock] using hk
    omega
end Go.Proofs.YtnhajhejkecihaaDoor
/- Maps keyed by ints, told as functions: of bools that are all true, and of strings. -/
namespace Go.Proofs.YtnhajhejkecihaaDoor
open Go.RowKit Go.Maps
set_option linter.unusedVariables false

section
variable {P : Program} {k e t : TypeId} {w w' : World} {b c : Nat}
theorem wf64 {i : Int} (h : -9223372036854775808 ≤ i ∧ i ≤ 9223372036854775807) : (Lit.int .i64 i).wf = true := by
  have h1 : IntKind.i64.min = -9223372036854775808 := by decide
  have h2 : IntKind.i64.max = 9223372036854775807 := by decide
  simp [Lit.wf]
  omega
theorem owns_tight {H : Type} {R : Value → Option (DataW H × List MemPlace)} {n : Nat} {D : DataW H} (h : w.ownsMap P k R b n D) : w.ownsMap P k R b (Maps.size D) D := by
  obtain ⟨es, clock, hb, F, hs, hD⟩ := h
  refine ⟨es, clock, hb, F, ?_, hD⟩
  subst hD
  simp [Maps.size, length_sorted]
theorem owns_keep {H : Type} {R : Value → Option (DataW H × List MemPlace)} {n : Nat} {D : DataW H} {F : Nat → Prop} (h : w.ownsMap P k R b n D) (hk : Keep F w w') (hb : ¬ F b) : w'.ownsMap P k R b n D := by
  have hlt := h.lt
  obtain ⟨es, clock, h1, r⟩ := h
  exact ⟨es, clock, (hk.block b hlt hb).trans h1, r⟩
theorem turned_keep (h : w.mapTurned w' b) : Keep (fun i => i = b) w w' := (Keep.refl _ w).grown h.grown (fun k e => .inl (Option.some.inj e).symm)
theorem elem_bool {H : Type} (he : P.underlying e = some .bool) {v : Value} {x : Bool} {ps : List MemPlace} (h : plainElem (H := H) P e v = some (.lit (.bool x), ps)) : v = .bool x := by
  unfold plainElem at h
  rw [he] at h
  cases v <;> simp at h
  rw [h.1]
theorem elem_string {H : Type} (he : P.underlying e = some .string) {v : Value} {l : List UInt8} {ps : List MemPlace} (h : plainElem (H := H) P e v = some (.lit (.string l), ps)) : v = .string ⟨l.toArray⟩ := by
  unfold plainElem at h
  rw [he] at h
  cases v with
  | string s =>
    simp at h
    obtain ⟨_, h, _⟩ := h
    rw [← h]
  | _ => simp at h

/-- A map of bools, all of them true: S tells which keys there are, c how many. -/
def FB (P : Program) (k e : TypeId) (w : World) (b : Nat) (S : Int → Bool) (c : Nat) : Prop :=
  ∃ D : DataW Unit, w.ownsMap P k (plainElem P e) b c D ∧ Maps.size D = c ∧ ∀ i : Int, (Lit.int .i64 i).wf = true → Maps.has D (.int .i64 i) = S i ∧ (S i = true → ∀ z, D.atKey (.int .i64 i) z = .lit (.bool true))
variable {S : Int → Bool}
theorem FB.lt (h : FB P k e w b S c) : b < w.heap.size := let ⟨_, h, _⟩ := h; h.lt
theorem FB.made (w : World) : FB P k e (w.alloc (.map #[] 0)) w.heap.size (fun _ => false) 0 :=
  ⟨.map [], World.ownsMap_made w P k _, rfl, fun i _ => ⟨rfl, fun h => Bool.noConfusion h⟩⟩
theorem FB.keep {F : Nat → Prop} (h : FB P k e w b S c) (hk : Keep F w w') (hb : ¬ F b) : FB P k e w' b S c := let ⟨D, h1, h2, h3⟩ := h; ⟨D, owns_keep h1 hk hb, h2, h3⟩
theorem FB.look (h : FB P k e w b S c) (hk : P.underlying k = some (.int .i64)) (ht : P.underlying t = some (.map k e)) (he : P.underlying e = some .bool) (hz : (zeroValue e).run P w = .ok (.bool false) w) {i : Int} (hi : (Lit.int .i64 i).wf = true) :
    (Instr.lookup t (.map (some b)) (.int .i64 i) false).run P w = .ok (.bool (S i)) w := by
  obtain ⟨D, h1, h2, h3⟩ := h
  obtain ⟨v, ps, hrun, hv⟩ := h1.lookup (int_keyed hk) ht hz (plainElem_bool he false) (keyOf_int_mk hk hi)
  cases hS : S i with
  | true =>
    rw [(h3 i hi).2 hS] at hv
    rw [hrun, elem_bool he hv]
  | false =>
    rw [atKey_of_not_has ((h3 i hi).1.trans hS)] at hv
    rw [hrun, elem_bool he hv]
theorem key_ne {i j : Int} (h : j ≠ i) : (Lit.int .i64 j) ≠ (Lit.int .i64 i) := fun e => h (by injection e)
theorem FB.put (h : FB P k e w b S c) (hk : P.underlying k = some (.int .i64)) (ht : P.underlying t = some (.map k e)) (he : P.underlying e = some .bool) (hc : c < maxLen) {i : Int} (hi : (Lit.int .i64 i).wf = true) :
    ∃ w', (Instr.mapUpdate t (.map (some b)) (.int .i64 i) (.bool true)).run P w = .ok () w' ∧ FB P k e w' b (fun j => j == i || S j) (if S i then c else c + 1) ∧ Keep (fun j => j = b) w w' := by
  obtain ⟨D, h1, h2, h3⟩ := h
  obtain ⟨w', hrun, ho, hg⟩ := h1.store (int_keyed hk) ht hc (keyOf_int_mk hk hi) (plainElem_bool he true)
  have hkl : WideAt.IsKeyLit (.int .i64 i) := trivial
  have hsz : Maps.size (D.put (.int .i64 i) (.lit (.bool true))) = if S i then c else c + 1 := by
    rw [size_put (h1.tidy (int_keyed hk)), (h3 i hi).1, h2]
  refine ⟨w', hrun, ⟨_, hsz ▸ owns_tight ho, hsz, fun j hj => ?_⟩, turned_keep hg⟩
  by_cases hji : j = i
  · subst hji
    exact ⟨by rw [has_put_same h1.isMap hkl]; simp, fun _ z => atKey_put_same h1.isMap hkl _ z⟩
  · refine ⟨by rw [has_put_other (key_ne hji), (h3 j hj).1]; simp [hji], fun hs z => ?_⟩
    rw [atKey_put_other (key_ne hji)]
    exact (h3 j hj).2 (by simpa [hji] using hs) z
theorem FB.del (h : FB P k e w b S c) (hk : P.underlying k = some (.int .i64)) (ht : P.underlying t = some (.map k e)) {i : Int} (hi : (Lit.int .i64 i).wf = true) (ty : TypeId) :
    ∃ w', (Builtin.delete_ #[t, k] ty #[.map (some b), .int .i64 i]).run P w = .ok (.tuple #[]) w' ∧ FB P k e w' b (fun j => !(j == i) && S j) (if S i then c - 1 else c) ∧ Keep (fun j => j = b) w w' := by
  obtain ⟨D, h1, h2, h3⟩ := h
  obtain ⟨w', hrun, ho, hg⟩ := h1.drop (int_keyed hk) ht (keyOf_int_mk hk hi) ty
  have hsz : Maps.size (D.del (.int .i64 i)) = if S i then c - 1 else c := by
    have := size_del (k := .int .i64 i) (h1.tidy (int_keyed hk))
    rw [(h3 i hi).1, h2] at this
    split <;> simp_all <;> omega
  refine ⟨w', hrun, ⟨_, hsz ▸ owns_tight ho, hsz, fun j hj => ?_⟩, turned_keep hg⟩
  by_cases hji : j = i
  · subst hji
    exact ⟨by rw [has_del_same]; simp, fun hs => by simp at hs⟩
  · refine ⟨by rw [has_del_other (key_ne hji), (h3 j hj).1]; simp [hji], fun hs z => ?_⟩
    rw [atKey_del_other (key_ne hji)]
    exact (h3 j hj).2 (by simpa [hji] using hs) z
theorem FB.len (h : FB P k e w b S c) (ht : P.underlying t = some (.map k e)) (ty : TypeId) : (Builtin.len_ #[t] ty #[.map (some b)]).run P w = .ok (.int .i64 (c : Int)) w := by
  obtain ⟨D, h1, h2, h3⟩ := h
  rw [h1.len ht ty, h2]

/-- A map of strings. -/
def FS (P : Program) (k e : TypeId) (w : World) (b : Nat) (f : Int → Option (List UInt8)) (c : Nat) : Prop :=
  ∃ D : DataW Unit, w.ownsMap P k (plainElem P e) b c D ∧ Maps.size D = c ∧ ∀ i : Int, (Lit.int .i64 i).wf = true → Maps.has D (.int .i64 i) = (f i).isSome ∧ (∀ l, f i = some l → ∀ z, D.atKey (.int .i64 i) z = .lit (.string l))
variable {f : Int → Option (List UInt8)}
theorem FS.lt (h : FS P k e w b f c) : b < w.heap.size := let ⟨_, h, _⟩ := h; h.lt
theorem FS.made (w : World) : FS P k e (w.alloc (.map #[] 0)) w.heap.size (fun _ => none) 0 :=
  ⟨.map [], World.ownsMap_made w P k _, rfl, fun i _ => ⟨rfl, fun l h => by cases h⟩⟩
theorem FS.keep {F : Nat → Prop} (h : FS P k e w b f c) (hk : Keep F w w') (hb : ¬ F b) : FS P k e w' b f c := let ⟨D, h1, h2, h3⟩ := h; ⟨D, owns_keep h1 hk hb, h2, h3⟩
theorem FS.look (h : FS P k e w b f c) (hk : P.underlying k = some (.int .i64)) (ht : P.underlying t = some (.map k e)) (he : P.underlying e = some .string) (hz : (zeroValue e).run P w = .ok (.string ⟨#[]⟩) w) {i : Int} (hi : (Lit.int .i64 i).wf = true) :
    (Instr.lookup t (.map (some b)) (.int .i64 i) false).run P w = .ok (.string ⟨((f i).getD []).toArray⟩) w := by
  obtain ⟨D, h1, h2, h3⟩ := h
  obtain ⟨v, ps, hrun, hv⟩ := h1.lookup (int_keyed hk) ht hz (plainElem_string he (s := ⟨#[]⟩) (by unfold maxLen; show 0 ≤ _; omega)) (keyOf_int_mk hk hi)
  cases hS : f i with
  | some l =>
    rw [(h3 i hi).2 l hS] at hv
    rw [hrun, elem_string he hv]
    rfl
  | none =>
    rw [atKey_of_not_has (by rw [(h3 i hi).1, hS]; rfl)] at hv
    rw [hrun, elem_string he hv]
    rfl
theorem FS.look_ok (h : FS P k e w b f c) (hk : P.underlying k = some (.int .i64)) (ht : P.underlying t = some (.map k e)) (he : P.underlying e = some .string) (hz : (zeroValue e).run P w = .ok (.string ⟨#[]⟩) w) {i : Int} (hi : (Lit.int .i64 i).wf = true) :
    (Instr.lookup t (.map (some b)) (.int .i64 i) true).run P w = .ok (.tuple #[.string ⟨((f i).getD []).toArray⟩, .bool (f i).isSome]) w := by
  obtain ⟨D, h1, h2, h3⟩ := h
  obtain ⟨v, ps, hrun, hv⟩ := h1.look_ok (int_keyed hk) ht hz (plainElem_string he (s := ⟨#[]⟩) (by unfold maxLen; show 0 ≤ _; omega)) (keyOf_int_mk hk hi)
  rw [(h3 i hi).1] at hrun
  cases hS : f i with
  | some l =>
    rw [(h3 i hi).2 l hS] at hv
    rw [hrun, elem_string he hv, hS]
    rfl
  | none =>
    rw [atKey_of_not_has (by rw [(h3 i hi).1, hS]; rfl)] at hv
    rw [hrun, elem_string he hv, hS]
    rfl
theorem FS.put (h : FS P k e w b f c) (hk : P.underlying k = some (.int .i64)) (ht : P.underlying t = some (.map k e)) (he : P.underlying e = some .string) (hc : c < maxLen) {i : Int} (hi : (Lit.int .i64 i).wf = true) {s : ByteArray} (hs : s.size ≤ maxLen) :
    ∃ w', (Instr.mapUpdate t (.map (some b)) (.int .i64 i) (.string s)).run P w = .ok () w' ∧ FS P k e w' b (fun j => if j = i then some s.data.toList else f j) (if (f i).isSome then c else c + 1) ∧ Keep (fun j => j = b) w w' := by
  obtain ⟨D, h1, h2, h3⟩ := h
  obtain ⟨w', hrun, ho, hg⟩ := h1.store (int_keyed hk) ht hc (keyOf_int_mk hk hi) (plainElem_string he hs)
  have hkl : WideAt.IsKeyLit (.int .i64 i) := trivial
  have hsz : Maps.size (D.put (.int .i64 i) (.lit (.string s.data.toList))) = if (f i).isSome then c else c + 1 := by
    rw [size_put (h1.tidy (int_keyed hk)), (h3 i hi).1, h2]
  refine ⟨w', hrun, ⟨_, hsz ▸ owns_tight ho, hsz, fun j hj => ?_⟩, turned_keep hg⟩
  by_cases hji : j = i
  · subst hji
    refine ⟨by rw [has_put_same h1.isMap hkl]; simp, fun l hl z => ?_⟩
    simp only [if_pos] at hl
    rw [← Option.some.inj hl]
    exact atKey_put_same h1.isMap hkl _ z
  · refine ⟨by rw [has_put_other (key_ne hji), (h3 j hj).1]; simp [hji], fun l hl z => ?_⟩
    simp only [if_neg hji] at hl
    rw [atKey_put_other (key_ne hji)]
    exact (h3 j hj).2 l hl z
theorem FS.del (h : FS P k e w b f c) (hk : P.underlying k = some (.int .i64)) (ht : P.underlying t = some (.map k e)) {i : Int} (hi : (Lit.int .i64 i).wf = true) (ty : TypeId) :
    ∃ w', (Builtin.delete_ #[t, k] ty #[.map (some b), .int .i64 i]).run P w = .ok (.tuple #[]) w' ∧ FS P k e w' b (fun j => if j = i then none else f j) (if (f i).isSome then c - 1 else c) ∧ Keep (fun j => j = b) w w' := by
  obtain ⟨D, h1, h2, h3⟩ := h
  obtain ⟨w', hrun, ho, hg⟩ := h1.drop (int_keyed hk) ht (keyOf_int_mk hk hi) ty
  have hsz : Maps.size (D.del (.int .i64 i)) = if (f i).isSome then c - 1 else c := by
    have := size_del (k := .int .i64 i) (h1.tidy (int_keyed hk))
    rw [(h3 i hi).1, h2] at this
    split <;> simp_all <;> omega
  refine ⟨w', hrun, ⟨_, hsz ▸ owns_tight ho, hsz, fun j hj => ?_⟩, turned_keep hg⟩
  by_cases hji : j = i
  · subst hji
    exact ⟨by rw [has_del_same]; simp, fun l hl => by simp at hl⟩
  · refine ⟨by rw [has_del_other (key_ne hji), (h3 j hj).1]; simp [hji], fun l hl z => ?_⟩
    simp only [if_neg hji] at hl
    rw [atKey_del_other (key_ne hji)]
    exact (h3 j hj).2 l hl z
end
end Go.Proofs.YtnhajhejkecihaaDoor
/- Install: what a store of modules is, without its memory: plain functions. -/
namespace Go.Proofs.YtnhajhejkecihaaDoor
open Go.RowKit
set_option linter.unusedVariables false

/-- A module that is not gone; it begins at line a. -/
structure ME where
  id : Nat
  a : Nat
  bytes : Bytes
  dropped : Bool
  owed : List Bool
structure MS where
  inn : List Int
  all : List ME
  next : Nat
def lns (n : Nat) : Nat := (n + 15) / 16
def ME.stop (e : ME) : Nat := e.a + lns e.bytes.length
def ME.on (e : ME) (k : Nat) : Bool := decide (e.a ≤ k) && decide (k < e.stop)
def takenB (l : List ME) (k : Nat) : Bool := l.any (·.on k)
/-- The search for free lines, as the code goes: k lines were looked at, the last run of them are free. -/
def seek (t : Nat → Bool) (len : Nat) : Nat → Nat → Nat → Option Nat
  | 0, _, _ => none
  | f + 1, k, run => if (if t k then 0 else run + 1) * 16 < len then seek t len f (k + 1) (if t k then 0 else run + 1) else some (k + 1 - (if t k then 0 else run + 1))
def ME.owes (e : ME) (c : Nat) : Bool := e.owed.getD c false
def ME.free (e : ME) : Bool := e.owed.all (!·)
def MS.find (s : MS) (id : Int) : Option Nat := s.all.findIdx? fun e => (e.id : Int) == id && !e.dropped
def MS.owing (s : MS) : List Bool := List.replicate s.inn.length true
def MS.added (s : MS) (b : Bytes) (p : Nat) : MS := { s with all := s.all ++ [⟨s.next, p, b, false, s.owing⟩], next := s.next + 1 }
def ME.passed (c : Nat) (e : ME) : ME := { e with owed := e.owed.set c false }
def ME.gone (e : ME) : Bool := e.dropped && e.free
def MS.passed (s : MS) (c : Nat) : MS := { s with all := (s.all.map (ME.passed c)).filter fun e => !e.gone }
def MS.dropped (s : MS) (j : Nat) (e : ME) : MS := { s with all := s.all.set j { e with dropped := true, owed := s.owing } }
def MS.left (s : MS) (c : Nat) (v : Int) : MS := { s with inn := s.inn.set c v }
/-- What always holds of a store. -/
structure MS.Inv (s : MS) : Prop where
  cpus : 1 ≤ s.inn.length ∧ s.inn.length ≤ 4
  size : ∀ e ∈ s.all, 0 < e.bytes.length ∧ e.stop ≤ 256
  owed : ∀ e ∈ s.all, e.owed.length = s.inn.length
  ids : ∀ e ∈ s.all, e.id < s.next
  apart : s.all.Pairwise fun e f => e.id ≠ f.id ∧ (e.stop ≤ f.a ∨ f.stop ≤ e.a)
  few : s.all.length ≤ 16
  next : s.next ≤ 1000000
  inn : ∀ v ∈ s.inn, -1 ≤ v ∧ v < s.next

theorem seek_spec (t : Nat → Bool) (len : Nat) (hl : 0 < len) : ∀ (f k run p : Nat), run * 16 < len → (∀ i, k ≤ i + run → i < k → t i = false) → run ≤ k → seek t len f k run = some p →
    p + lns len ≤ k + f ∧ (∀ i, p ≤ i → i < p + lns len → t i = false)
  | 0, _, _, _, _, _, _, h => by cases h
  | f + 1, k, run, p, hr, hf, hk, h => by
    unfold seek at h
    cases ht : t k with
    | true =>
      rw [ht] at h
      simp only [if_true] at h
      rw [if_pos (by omega)] at h
      have := seek_spec t len hl f (k + 1) 0 p (by omega) (fun i h1 h2 => by omega) (by omega) h
      exact ⟨by omega, this.2⟩
    | false =>
      rw [ht] at h
      simp only [Bool.false_eq_true, if_false] at h
      have hfr : ∀ i, k + 1 ≤ i + (run + 1) → i < k + 1 → t i = false := fun i h1 h2 => by
        by_cases hik : i = k
        · subst hik; exact ht
        · exact hf i (by omega) (by omega)
      split at h
      · rename_i hlt
        have := seek_spec t len hl f (k + 1) (run + 1) p hlt hfr (by omega) h
        exact ⟨by omega, this.2⟩
      · rename_i hge
        obtain rfl := Option.some.inj h
        have hl2 : lns len = run + 1 := by unfold lns; omega
        exact ⟨by omega, fun i h1 h2 => hfr i (by omega) (by omega)⟩
/-- No line of a window is free throughout. -/
def barred (t : Nat → Bool) (n q : Nat) : Prop := ∃ i, q ≤ i ∧ i < q + n ∧ t i = true
/-- It is the first run of free lines. -/
theorem seek_least (t : Nat → Bool) (len : Nat) (hl : 0 < len) : ∀ (f k run : Nat), run * 16 < len → run ≤ k → (∀ q, q + run < k → barred t (lns len) q) →
    (∀ p, seek t len f k run = some p → ∀ q, q < p → barred t (lns len) q) ∧ (seek t len f k run = none → ∀ q, q + lns len ≤ k + f → barred t (lns len) q)
  | 0, k, run, hr, hk, hb => ⟨fun p h => (by cases h), fun _ q hq => hb q (by unfold lns at hq; omega)⟩
  | f + 1, k, run, hr, hk, hb => by
    unfold seek
    cases ht : t k with
    | true =>
      simp only [if_true]
      rw [if_pos (by omega)]
      have := seek_least t len hl f (k + 1) 0 (by omega) (by omega) (fun q hq => by
        by_cases hqk : q + run < k
        · exact hb q hqk
        · exact ⟨k, by omega, by unfold lns; omega, ht⟩)
      exact ⟨this.1, fun h q hq => this.2 h q (by omega)⟩
    | false =>
      simp only [Bool.false_eq_true, if_false]
      split
      · rename_i hlt
        have := seek_least t len hl f (k + 1) (run + 1) hlt (by omega) (fun q hq => hb q (by omega))
        exact ⟨this.1, fun h q hq => this.2 h q (by omega)⟩
      · rename_i hge
        exact ⟨fun p h q hq => by obtain rfl := Option.some.inj h; exact hb q (by omega), fun h => by cases h⟩
/-- Where the lines below m are taken, and no others. -/
theorem seek_prefix (t : Nat → Bool) (len m : Nat) (hl : 0 < len) (hm : ∀ i, t i = decide (i < m)) : seek t len 256 0 0 = if m + lns len ≤ 256 then some m else none := by
  have h1 := seek_least t len hl 256 0 0 (by omega) (by omega) (fun q hq => by omega)
  cases hs : seek t len 256 0 0 with
  | none =>
    rw [if_neg]
    intro hle
    obtain ⟨i, hi1, hi2, hi3⟩ := h1.2 hs m (by omega)
    rw [hm] at hi3
    simp at hi3
    omega
  | some p =>
    have h2 := seek_spec t len hl 256 0 0 p (by omega) (fun i _ h => by omega) (by omega) hs
    have hlp : 0 < lns len := by unfold lns; omega
    have hpm : m ≤ p := by
      have := h2.2 p (by omega) (by omega)
      rw [hm] at this
      simp at this
      exact this
    have hpe : p = m := by
      by_cases h : m < p
      · obtain ⟨i, hi1, hi2, hi3⟩ := h1.1 p hs m h
        rw [hm] at hi3
        simp at hi3
        omega
      · omega
    subst hpe
    rw [if_pos (by omega)]
theorem taken_nil (k : Nat) : takenB [] k = false := rfl
theorem taken_snoc (l : List ME) (e : ME) (k : Nat) : takenB (l ++ [e]) k = (takenB l k || e.on k) := by simp [takenB]
end Go.Proofs.YtnhajhejkecihaaDoor
/- Install: the board in memory; inside, Write. -/
namespace Go.Proofs.YtnhajhejkecihaaDoor
open Go.RowKit Go.Lib
set_option linter.unusedVariables false

theorem Tryd.bytes : OneTy Tryd.prog 53 5 (.int .u8 0) 1 := ⟨Tryd.underlying53, by kernel_rfl, rfl⟩
/-- Where a board lies. -/
structure BR where
  mb : Nat
  mc : Nat
  cb : Nat
  cc : Nat
  ms : List Nat
abbrev Cache := Int → Option Bytes
/-- How many lines a cache has. -/
def cnt (f : Cache) : Nat := (List.range 256).countP fun k : Nat => (f (k : Int)).isSome
theorem cnt_le (f : Cache) : cnt f ≤ 256 := by
  have := List.countP_le_length (p := fun k : Nat => (f (k : Int)).isSome) (l := List.range 256)
  simpa [cnt] using this
theorem countP_one {p p' : Nat → Bool} {q : Nat} : ∀ l : List Nat, l.Nodup → (∀ k, k ≠ q → p' k = p k) → (q ∈ l → l.countP p' + (p q).toNat = l.countP p + (p' q).toNat) ∧ (q ∉ l → l.countP p' = l.countP p)
  | [], _, _ => ⟨fun h => by simp at h, fun _ => rfl⟩
  | x :: l, hn, hp => by
    have hx := (List.nodup_cons.1 hn).1
    have ih := countP_one l (List.nodup_cons.1 hn).2 hp
    rw [List.countP_cons, List.countP_cons]
    by_cases hxq : x = q
    · subst hxq
      have := ih.2 hx
      refine ⟨fun _ => ?_, fun h => absurd List.mem_cons_self h⟩
      rw [this]
      cases p x <;> cases p' x <;> simp
    · rw [hp x hxq]
      refine ⟨fun h => ?_, fun h => ?_⟩
      · have := ih.1 ((List.mem_cons.1 h).resolve_left (fun e => hxq e.symm))
        omega
      · rw [ih.2 (fun h' => h (List.mem_cons_of_mem _ h'))]
theorem cnt_one {f f' : Cache} {q : Nat} (hq : q < 256) (h : ∀ k : Int, k ≠ q → f' k = f k) : cnt f' + (f (q : Int)).isSome.toNat = cnt f + (f' (q : Int)).isSome.toNat :=
  (countP_one (p := fun k => (f (k : Int)).isSome) (p' := fun k => (f' (k : Int)).isSome) (q := q) (List.range 256) List.nodup_range (fun k hk => by rw [h k (by omega)])).1 (List.mem_range.2 hq)
structure IsBoard (w : World) (b : Nat) (r : BR) (M : Bytes) (fs : List Cache) : Prop where
  hdr : w.heap[b]? = some (.cells #[.slice (some ⟨r.mb, 0, none⟩) 4096 r.mc, .slice (some ⟨r.cb, 0, none⟩) fs.length r.cc] 109 (0, 0))
  mem : w.ownsRow 0 5 1 (.slice (some ⟨r.mb, 0, none⟩) 4096 r.mc) 4096 (b8 M)
  caches : w.ownsRow 0 110 1 (.slice (some ⟨r.cb, 0, none⟩) fs.length r.cc) fs.length (r.ms.map fun m => .map (some m))
  maps : ∀ i, i < fs.length → FS Tryd.prog 3 9 w (r.ms.getD i 0) (fs.getD i (fun _ => none)) (cnt (fs.getD i (fun _ => none)))
  nodup : r.ms.Nodup
  len : M.length = 4096
theorem IsBoard.msl {w : World} {b : Nat} {r : BR} {M : Bytes} {fs : List Cache} (h : IsBoard w b r M fs) : r.ms.length = fs.length := by
  have := h.caches.1
  simpa using this
/-- The blocks of a board. -/
def BR.foot (r : BR) (b k : Nat) : Prop := k = b ∨ k = r.mb ∨ k = r.cb ∨ k ∈ r.ms
theorem IsBoard.keep {w w' : World} {b : Nat} {r : BR} {M : Bytes} {fs : List Cache} {F : Nat → Prop} (h : IsBoard w b r M fs) (hk : Keep F w w') (hF : ∀ k, r.foot b k → ¬ F k) : IsBoard w' b r M fs :=
  ⟨(hk.block b (blk_lt h.hdr) (hF b (.inl rfl))).trans h.hdr, hk.own h.mem (fun k e => by simp [Value.ownBlock] at e; subst e; exact hF _ (.inr (.inl rfl))), hk.own h.caches (fun k e => by simp [Value.ownBlock] at e; subst e; exact hF _ (.inr (.inr (.inl rfl)))),
    fun i hi => (h.maps i hi).keep hk (hF _ (.inr (.inr (.inr (getD_mem (by rw [h.msl]; exact hi)))))), h.nodup, h.len⟩
theorem IsBoard.foot_lt {w : World} {b : Nat} {r : BR} {M : Bytes} {fs : List Cache} (h : IsBoard w b r M fs) : ∀ k, r.foot b k → k < w.heap.size := by
  rintro k (rfl | rfl | rfl | hk)
  · exact blk_lt h.hdr
  · exact own_lt h.mem _ rfl
  · exact own_lt h.caches _ rfl
  · obtain ⟨i, hi, rfl⟩ := List.getElem_of_mem hk
    have := (h.maps i (by rw [← h.msl]; exact hi)).lt
    rwa [List.getD_eq_getElem?_getD, List.getElem?_eq_getElem hi] at this
theorem IsBoard.c0 {w : World} {b : Nat} {r : BR} {M : Bytes} {fs : List Cache} (h : IsBoard w b r M fs) : w.cell? ⟨b, 0, none⟩ = some (.slice (some ⟨r.mb, 0, none⟩) 4096 r.mc) := (blk_cell h.hdr 0).trans rfl
theorem IsBoard.c1 {w : World} {b : Nat} {r : BR} {M : Bytes} {fs : List Cache} (h : IsBoard w b r M fs) : w.cell? ⟨b, 1, none⟩ = some (.slice (some ⟨r.cb, 0, none⟩) fs.length r.cc) := (blk_cell h.hdr 1).trans rfl
theorem IsBoard.map {w : World} {b : Nat} {r : BR} {M : Bytes} {fs : List Cache} (h : IsBoard w b r M fs) {c : Nat} (hc : c < fs.length) : w.cell? ⟨r.cb, c, none⟩ = some (.map (some (r.ms.getD c 0))) := by
  rcases h.caches.2 with ⟨h1, _⟩ | ⟨g, cap, cur, h1, _, h3, _, _, _, h7⟩
  · cases h1
  · injection h1 with h1 _ _
    injection h1 with h1
    injection h1 with h1
    subst h1
    have hm : c < r.ms.length := by rw [h.msl]; exact hc
    have h8 : (cur.toList.take (fs.length * 1))[c]? = (r.ms.map fun m => Value.map (some m))[c]? := by rw [h7]
    rw [List.getElem?_take_of_lt (by omega), List.getElem?_map, List.getElem?_eq_getElem hm] at h8
    rw [blk_cell h3, List.getD_eq_getElem?_getD, List.getElem?_eq_getElem hm]
    simpa using h8

set_option maxRecDepth 100000 in
set_option maxHeartbeats 2000000 in
theorem inside_any {w : World} {b : Nat} {r : BR} {M : Bytes} {fs : List Cache} (h : IsBoard w b r M fs) (addr n : Nat) (hn : addr + n ≤ 4096) :
    Calls Tryd.prog 58 #[.pointer (some ⟨b, 0, none⟩), .int .i64 addr, .int .i64 n] w fun e w' => e = .returned (.bool true) ∧ w = w' := by
  have c0 := h.c0
  have g1 : decide ((addr : Int) ≤ 4096) = true := by simp; omega
  have g2 : decide ((n : Int) ≤ 4096 - (addr : Int)) = true := by simp; omega
  have g3 : IntKind.i64.wrap (4096 - (addr : Int)) = 4096 - (addr : Int) := by rw [IntKind.wrap_i64]; omega
  have hne : (binOp .neq 53 (.slice (some ⟨r.mb, 0, none⟩) 4096 r.mc) (.slice none 0 0)).run Tryd.prog w = .ok (.bool true) w := by kernel_rfl
  clear h
  go_enter Tryd.func58, Tryd.ntmps58
  go_wp2_with fail
  go_ret
  exact ⟨rfl, rfl⟩
theorem fs_map {w : World} {b c : Nat} {f : Cache} (h : FS Tryd.prog 3 9 w b f c) : ∃ es clock, w.heap[b]? = some (.map es clock) := by
  obtain ⟨D, ⟨es, clock, hb, _⟩, _⟩ := h
  exact ⟨es, clock, hb⟩
theorem IsBoard.mem_map {w : World} {b : Nat} {r : BR} {M : Bytes} {fs : List Cache} (h : IsBoard w b r M fs) {k : Nat} (hk : k ∈ r.ms) : ∃ es clock, w.heap[k]? = some (.map es clock) := by
  obtain ⟨i, hi, rfl⟩ := List.getElem_of_mem hk
  have := fs_map (h.maps i (by rw [← h.msl]; exact hi))
  rwa [List.getD_eq_getElem?_getD, List.getElem?_eq_getElem hi] at this
theorem IsBoard.apart {w : World} {b : Nat} {r : BR} {M : Bytes} {fs : List Cache} (h : IsBoard w b r M fs) : (b ≠ r.mb ∧ b ≠ r.cb ∧ r.cb ≠ r.mb) ∧ (r.mb ∉ r.ms ∧ b ∉ r.ms ∧ r.cb ∉ r.ms) := by
  obtain ⟨c1, h1⟩ := own_type h.mem (k := r.mb) rfl
  obtain ⟨c2, h2⟩ := own_type h.caches (k := r.cb) rfl
  refine ⟨⟨fun e => ?_, fun e => ?_, fun e => ?_⟩, fun hk => ?_, fun hk => ?_, fun hk => ?_⟩
  · exact blk_own_ne h.hdr h.mem (k := r.mb) rfl (by decide) e.symm
  · exact blk_own_ne h.hdr h.caches (k := r.cb) rfl (by decide) e.symm
  · rw [e, h1] at h2
    injection h2 with h2
    injection h2 with _ h4
    exact absurd h4 (by decide)
  · obtain ⟨es, ck, hm⟩ := h.mem_map hk
    rw [h1] at hm
    cases hm
  · obtain ⟨es, ck, hm⟩ := h.mem_map hk
    rw [h.hdr] at hm
    cases hm
  · obtain ⟨es, ck, hm⟩ := h.mem_map hk
    rw [h2] at hm
    cases hm
/-- A store into the memory's row. -/
theorem IsBoard.wrote {w : World} {b : Nat} {r : BR} {M : Bytes} {fs : List Cache} {cur : Array Value} (h : IsBoard w b r M fs) (hcur : w.heap[r.mb]? = some (.cells cur 5 (0, 0))) (hcs : cur.size = r.mc) (hmc : 4096 ≤ r.mc ∧ r.mc ≤ maxLen) (htk : cur.toList.take 4096 = b8 M)
    (a : Nat) (s : Bytes) (hn : a + s.length ≤ 4096) {new : Array Value} (hnew : new.toList = cur.toList.take a ++ (b8 s ++ cur.toList.drop (a + s.length))) :
    IsBoard (w.setRow r.mb new) b r (M.take a ++ (s ++ M.drop (a + s.length))) fs ∧ Keep (fun k => k = r.mb) w (w.setRow r.mb new) := by
  have hk : Keep (fun k => k = r.mb) w (w.setRow r.mb new) := ⟨rfl, rfl, rfl, by simp, fun k _ hk => setRow_other w r.mb k _ hk⟩
  obtain ⟨⟨n1, n2, n3⟩, n4, n5, n6⟩ := h.apart
  have hlen : (M.take a ++ (s ++ M.drop (a + s.length))).length = 4096 := by have := h.len; simp; omega
  have hcl : cur.toList.length = r.mc := by simpa using hcs
  refine ⟨⟨(hk.block b (blk_lt h.hdr) n1).trans h.hdr, ⟨by rw [b8_length, hlen], .inr ⟨r.mb, r.mc, new, rfl, Nat.zero_le _, setRow_heap w r.mb cur _ _ _ hcur, hmc.1, hmc.2, ?_, ?_⟩⟩,
    hk.own h.caches (fun k e => by simp [Value.ownBlock] at e; subst e; exact n3), fun i hi => (h.maps i hi).keep hk (fun e => n4 (e ▸ getD_mem (by rw [h.msl]; exact hi))), h.nodup, hlen⟩, hk⟩
  · have : new.toList.length = r.mc := by rw [hnew]; simp only [List.length_append, List.length_take, List.length_drop, b8_length]; omega
    simpa using this
  · rw [hnew, Nat.mul_one]
    have e1 : cur.toList.take a = b8 (M.take a) := by rw [← b8_take, ← htk, List.take_take, Nat.min_eq_left (by omega)]
    have e2 : (cur.toList.drop (a + s.length)).take (4096 - (a + s.length)) = b8 (M.drop (a + s.length)) := by rw [← b8_drop, ← htk, List.drop_take]
    have l1 : (b8 (M.take a)).length = a := by rw [b8_length]; have := h.len; simp; omega
    rw [e1, b8_append, b8_append, ← e2, take_three _ _ _ _ (by rw [l1, b8_length]; omega), l1, b8_length, Nat.sub_sub]
theorem write_lens {M s : Bytes} {a : Nat} (h1 : M.length = 4096) (h2 : a + s.length ≤ 4096) : (M.take a ++ (s ++ M.drop (a + s.length))).length = 4096 := by simp; omega
set_option maxRecDepth 100000 in
set_option maxHeartbeats 2000000 in
theorem write_any {w : World} {b : Nat} {r : BR} {M : Bytes} {fs : List Cache} (h : IsBoard w b r M fs) (addr : Nat) (s : Bytes) (hs : 0 < s.length) (hn : addr + s.length ≤ 4096) :
    Calls Tryd.prog 35 #[.pointer (some ⟨b, 0, none⟩), .int .i64 addr, .string (sb s)] w fun e w' => e = .returned (.int .i64 0) ∧ IsBoard w' b r (M.take addr ++ (s ++ M.drop (addr + s.length))) fs ∧ Keep (fun k => k = r.mb) w w' := by
  have H := Lib.hid h
  have c0 := h.c0
  have HI := Lib.hid (inside_any h addr s.length hn)
  have hsz := sb_size s
  clear h
  go_enter Tryd.func35, Tryd.ntmps35
  go_wp2_with fail
  ((with_reducible refine HI.out.mono ?_); rintro e w' ⟨rfl, rfl⟩)
  clear HI
  obtain ⟨cur, hcur, hcs, hmc, htk⟩ : ∃ cur, w.heap[r.mb]? = some (.cells cur 5 (0, 0)) ∧ cur.size = r.mc ∧ (4096 ≤ r.mc ∧ r.mc ≤ maxLen) ∧ cur.toList.take 4096 = b8 M := by
    rcases H.out.mem.2 with ⟨h1, _⟩ | ⟨g, cap, cur, h1, _, h3, h4, h5, h6, h7⟩
    · cases h1
    · injection h1 with h1 _ h1c
      injection h1 with h1
      injection h1 with h1
      subst h1 h1c
      exact ⟨cur, h3, by simpa using h6, ⟨h4, h5⟩, by simpa using h7⟩
  have g1 : ((addr : Int) ≤ 4096) := by omega
  have g2 : ¬ r.mc = addr := by omega
  have hcp : ∀ ty, (Builtin.copy_ #[53, 9] ty #[.slice (some ⟨r.mb, addr, none⟩) (4096 - addr) (r.mc - addr), .string (sb s)]).run Tryd.prog w = .ok (goInt (sb s).size) (w.setRow r.mb (cur.toList.take addr ++ Go.Lib.byteCells (sb s).data.toList ++ cur.toList.drop (addr + (sb s).size)).toArray) :=
    fun ty => run_copy_row_string w _ _ ty 5 r.mb addr _ _ (sb s) cur 5 Tryd.bytes.ht (by kernel_rfl) hcur (by rw [hsz]; omega) (by rw [hsz]; omega)
  have HC := Lib.hid (And.intro hcur (And.intro hcs (And.intro hmc htk)))
  clear hcur hcs hmc htk
  go_wp2_with fail
  go_ret
  obtain ⟨i1, i2⟩ := H.out.wrote HC.out.1 HC.out.2.1 HC.out.2.2.1 HC.out.2.2.2 addr s hn (new := (cur.toList.take addr ++ (Go.Lib.byteCells (sb s).data.toList ++ cur.toList.drop (addr + s.length))).toArray) rfl
  exact ⟨rfl, i1, i2⟩
end Go.Proofs.YtnhajhejkecihaaDoor
/- Install: Flush. -/
namespace Go.Proofs.YtnhajhejkecihaaDoor
open Go.RowKit Go.Lib
set_option linter.unusedVariables false

/-- A cache without the lines from lo on that begin below h. -/
def cut (lo h : Nat) (f : Cache) : Cache := fun i => if (lo : Int) ≤ i ∧ 16 * i < (h : Int) then none else f i
theorem cut_start (lo : Nat) (f : Cache) : cut lo (16 * lo) f = f := by
  funext i
  unfold cut
  rw [if_neg]
  omega
theorem cut_step (lo h : Nat) (f : Cache) (hl : 16 * lo ≤ h) : (fun j => if j = ((h : Int) / 16) then none else cut lo h f j) = cut lo (h + 1) f := by
  funext i
  unfold cut
  by_cases h1 : i = (h : Int) / 16
  · rw [if_pos h1, if_pos (by omega)]
  · rw [if_neg h1]
    by_cases h2 : (lo : Int) ≤ i ∧ 16 * i < (h : Int)
    · rw [if_pos h2, if_pos (by omega)]
    · rw [if_neg h2, if_neg (by omega)]
theorem set_same {α : Type} (l : List α) (c : Nat) (d : α) : l.set c (l.getD c d) = l := by
  apply List.ext_getElem (by simp)
  intro i h1 h2
  by_cases hi : c = i
  · subst hi
    rw [List.getElem_set_self, List.getD_eq_getElem?_getD, List.getElem?_eq_getElem h2]
    rfl
  · rw [List.getElem_set_ne hi]
theorem getD_set_self {α : Type} (l : List α) (c : Nat) (x d : α) (h : c < l.length) : (l.set c x).getD c d = x := by
  rw [List.getD_eq_getElem?_getD, List.getElem?_set_self h]
  rfl
theorem getD_set_ne' {α : Type} (l : List α) (c i : Nat) (x d : α) (h : c ≠ i) : (l.set c x).getD i d = l.getD i d := by
  rw [List.getD_eq_getElem?_getD, List.getElem?_set_ne h, List.getD_eq_getElem?_getD]
theorem nodup_ne {l : List Nat} (h : l.Nodup) {i j : Nat} (hi : i < l.length) (hj : j < l.length) (hij : i ≠ j) : l.getD i 0 ≠ l.getD j 0 := by
  rw [List.getD_eq_getElem?_getD, List.getD_eq_getElem?_getD, List.getElem?_eq_getElem hi, List.getElem?_eq_getElem hj]
  intro e
  exact hij ((List.getElem_inj h).1 e)
/-- One cache is turned. -/
theorem IsBoard.turn {w w' : World} {b : Nat} {r : BR} {M : Bytes} {fs : List Cache} (h : IsBoard w b r M fs) {c : Nat} (hc : c < fs.length) {f : Cache} (hf : FS Tryd.prog 3 9 w' (r.ms.getD c 0) f (cnt f)) (hk : Keep (fun k => k = r.ms.getD c 0) w w') : IsBoard w' b r M (fs.set c f) := by
  have hm : r.ms.getD c 0 ∈ r.ms := getD_mem (by rw [h.msl]; exact hc)
  obtain ⟨_, n4, n5, n6⟩ := h.apart
  have ne : ∀ k, k ∉ r.ms → k ≠ r.ms.getD c 0 := fun k hk e => hk (e ▸ hm)
  refine ⟨by rw [List.length_set]; exact (hk.block b (blk_lt h.hdr) (ne b n5)).trans h.hdr, hk.own h.mem (fun k e => by simp [Value.ownBlock] at e; subst e; exact ne _ n4), by rw [List.length_set]; exact hk.own h.caches (fun k e => by simp [Value.ownBlock] at e; subst e; exact ne _ n6), fun i hi => ?_, h.nodup, h.len⟩
  rw [List.length_set] at hi
  by_cases hci : c = i
  · subst hci
    rw [getD_set_self _ _ _ _ hi]
    exact hf
  · rw [getD_set_ne' _ _ _ _ _ hci]
    exact (h.maps i hi).keep hk (nodup_ne h.nodup (by rw [h.msl]; exact hi) (by rw [h.msl]; exact hc) (fun e => hci e.symm))

set_option maxRecDepth 100000 in
set_option maxHeartbeats 4000000 in
theorem flush_any {w : World} {b : Nat} {r : BR} {M : Bytes} {fs : List Cache} (h : IsBoard w b r M fs) (c a n : Nat) (hc : c < fs.length) (hn : 16 * a + n ≤ 4096) :
    Calls Tryd.prog 37 #[.pointer (some ⟨b, 0, none⟩), .int .i64 c, .int .i64 ((16 * a : Nat) : Int), .int .i64 n] w fun e w' => e = .returned (.int .i64 0) ∧ IsBoard w' b r M (fs.set c (cut a (16 * a + n) (fs.getD c (fun _ => none)))) ∧ Keep (fun k => k = r.ms.getD c 0) w w' := by
  have H := Lib.hid h
  have c1 := h.c1
  have HI := Lib.hid (inside_any h (16 * a) n hn)
  have g1 : decide (fs.length ≤ c) = false := by simpa using hc
  obtain ⟨A, hA⟩ : ∃ A, 16 * a = A := ⟨_, rfl⟩
  rw [hA] at HI
  rw [hA]
  have HA := Lib.hid hA
  have hA2 : A + n ≤ 4096 := by omega
  clear h hA
  obtain ⟨m0, hm0⟩ : ∃ m, r.ms.getD c 0 = m := ⟨_, rfl⟩
  have HM := Lib.hid hm0
  rw [hm0]
  clear hm0
  go_enter Tryd.func37, Tryd.ntmps37
  go_wp2_with fail
  ((with_reducible refine HI.out.mono ?_); rintro e w' ⟨rfl, rfl⟩)
  clear HI
  go_wp2_with fail
  go_loopw [9] (fun i wr => ∃ K : Nat, (A ≤ K ∧ K ≤ A + n) ∧ i = .int .i64 (K : Int) ∧ Hid (IsBoard wr b r M (fs.set c (cut a K (fs.getD c (fun _ => none)))) ∧ Keep (fun k => k = m0) w wr)) (fun i _ => A + n + 1 - (RowKit.intOf i).toNat)
  case atStart => exact ⟨A, by omega, rfl, Lib.hid ⟨by rw [← HA.out, cut_start, set_same]; exact H.out, Keep.refl _ _⟩⟩
  case round =>
    obtain ⟨K, hK, rfl, HB⟩ := hrel
    obtain ⟨wo, rfl⟩ : ∃ wo : World, wo = wr := ⟨_, rfl⟩
    clear c1
    have d1 := HB.out.1.c1
    rw [List.length_set] at d1
    have hlen : c < (fs.set c (cut a K (fs.getD c (fun _ => none)))).length := by rw [List.length_set]; exact hc
    have d2 := HB.out.1.map hlen
    rw [HM.out] at d2
    by_cases hlt : K < A + n
    · have hb : decide ((K : Int) < (A : Int) + (n : Int)) = true := by simp; omega
      have hfs := HB.out.1.maps c hlen
      rw [getD_set_self _ _ _ _ hc, HM.out] at hfs
      obtain ⟨wd, hrun, hfd, hkd⟩ := hfs.del (ty := 0) Tryd.underlying3 Tryd.underlying110 (i := (K : Int) / 16) (wf64 (by omega))
      have hct := cut_step a K (fs.getD c (fun _ => none)) (by have := HA.out; omega)
      have hcn : (if (cut a K (fs.getD c (fun _ => none)) ((K : Int) / 16)).isSome then cnt (cut a K (fs.getD c (fun _ => none))) - 1 else cnt (cut a K (fs.getD c (fun _ => none)))) = cnt (cut a (K + 1) (fs.getD c (fun _ => none))) := by
        rw [← hct]
        have h1 : (K : Int) / 16 = ((K / 16 : Nat) : Int) := by omega
        rw [h1]
        have := cnt_one (f := cut a K (fs.getD c (fun _ => none))) (f' := fun j => if j = ((K / 16 : Nat) : Int) then none else cut a K (fs.getD c (fun _ => none)) j) (q := K / 16) (by omega) (fun k hk => by simp only [if_neg hk])
        simp only [if_true, Option.isSome_none, Bool.toNat_false, Nat.add_zero] at this
        cases hs : (cut a K (fs.getD c (fun _ => none)) ((K / 16 : Nat) : Int)).isSome with
        | true => rw [hs] at this; simp at this ⊢; omega
        | false => rw [hs] at this; simp at this ⊢; omega
      rw [hcn, hct] at hfd
      have HB2 := Lib.hid (And.intro (HB.out.1.turn hlen (by rw [HM.out]; exact hfd) (by rw [HM.out]; exact hkd)) (Keep.trans HB.out.2 hkd))
      rw [List.set_set] at HB2
      clear hfs hfd hkd hct hcn
      go_wp2_with fail
      exact ⟨⟨K + 1, by omega, by go_num, HB2⟩, by simp [RowKit.intOf]; omega⟩
    · have hb : decide ((K : Int) < (A : Int) + (n : Int)) = false := by simp; omega
      obtain rfl : K = A + n := by omega
      go_wp2_with fail
      go_ret
      exact ⟨rfl, HB.out.1, HB.out.2⟩
end Go.Proofs.YtnhajhejkecihaaDoor
/- Install: Fetch. -/
namespace Go.Proofs.YtnhajhejkecihaaDoor
open Go.RowKit Go.Lib
set_option linter.unusedVariables false

def line (M : Bytes) (k : Nat) : Bytes := (M.drop (16 * k)).take 16
/-- A cache that has the lines from lo on that begin below h as they are. -/
def fill (M : Bytes) (lo h : Nat) (f : Cache) : Cache := fun i => if (lo : Int) ≤ i ∧ 16 * i < (h : Int) then some (line M i.toNat) else f i
theorem fill_start (M : Bytes) (lo : Nat) (f : Cache) : fill M lo (16 * lo) f = f := by
  funext i
  unfold fill
  rw [if_neg]
  omega
theorem fill_hit (M : Bytes) (lo h : Nat) (f : Cache) (hl : 16 * lo ≤ h) (hf : f ((h / 16 : Nat) : Int) = some (line M (h / 16)) ∨ (f ((h / 16 : Nat) : Int) = none ∧ 16 * (h / 16) < h)) : fill M lo (h + 1) f = fill M lo h f := by
  funext i
  unfold fill
  by_cases h2 : (lo : Int) ≤ i ∧ 16 * i < (h : Int)
  · rw [if_pos h2, if_pos (by omega)]
  · rw [if_neg h2]
    by_cases h3 : (lo : Int) ≤ i ∧ 16 * i < ((h + 1 : Nat) : Int)
    · rw [if_pos h3]
      obtain rfl : i = ((h / 16 : Nat) : Int) := by omega
      rcases hf with hf | hf
      · rw [hf]; rfl
      · omega
    · rw [if_neg h3]
theorem fill_miss (M : Bytes) (lo h : Nat) (f : Cache) (hl : 16 * lo ≤ h) : (fun j => if j = ((h / 16 : Nat) : Int) then some (line M (h / 16)) else fill M lo h f j) = fill M lo (h + 1) f := by
  funext i
  unfold fill
  by_cases h1 : i = ((h / 16 : Nat) : Int)
  · rw [if_pos h1, if_pos (by omega), h1]; rfl
  · rw [if_neg h1]
    by_cases h2 : (lo : Int) ≤ i ∧ 16 * i < (h : Int)
    · rw [if_pos h2, if_pos (by omega)]
    · rw [if_neg h2, if_neg (by omega)]
theorem line_len {M : Bytes} (h : M.length = 4096) {k : Nat} (hk : 16 * k + 16 ≤ 4096) : (line M k).length = 16 := by unfold line; simp; omega
theorem run_string_mem {w : World} (g off c : Nat) (l : Bytes) (hc : ∀ j (hj : j < l.length), w.cell? ⟨g, off + j, none⟩ = some (.int .u8 (l[j].toNat : Int))) :
    (convert 53 9 (.slice (some ⟨g, off, none⟩) l.length c)).run Tryd.prog w = .ok (.string (sb l)) w :=
  run_convert_bytes_back w 53 9 5 ⟨g, off, none⟩ c l Tryd.bytes.ht Tryd.underlying5 Tryd.underlying9 (fun j hj => by rw [Addr.add_lit]; exact hc j hj)
/-- A line of the memory, as the memory's row has it. -/
theorem IsBoard.line_cell {w : World} {b : Nat} {r : BR} {M : Bytes} {fs : List Cache} (h : IsBoard w b r M fs) (q : Nat) (hq : 16 * q + 16 ≤ 4096) (j : Nat) (hj : j < (line M q).length) : w.cell? ⟨r.mb, 16 * q + j, none⟩ = some (.int .u8 ((line M q)[j].toNat : Int)) := by
  rcases h.mem.2 with ⟨h1, _⟩ | ⟨g, cap, cur, h1, _, h3, h4, _, h6, h7⟩
  · cases h1
  · injection h1 with h1 _ _
    injection h1 with h1
    injection h1 with h1
    subst h1
    have hl := line_len h.len hq
    have hj2 := hj
    rw [hl] at hj2
    have hM : 16 * q + j < M.length := by rw [h.len]; omega
    have e1 : (line M q)[j] = M[16 * q + j] := by simp [line]
    have h8 : (cur.toList.take (4096 * 1))[16 * q + j]? = (b8 M)[16 * q + j]? := by rw [h7]
    rw [List.getElem?_take_of_lt (by omega)] at h8
    rw [blk_cell h3, e1]
    simp only [b8, List.getElem?_map, List.getElem?_eq_getElem hM] at h8
    simpa using h8
theorem line_get {M : Bytes} (h : M.length = 4096) {K : Nat} (hK : K < 4096) : (line M (K / 16)).getD (K % 16) 0 = M.getD K 0 := by
  unfold line
  rw [List.getD_eq_getElem?_getD, List.getD_eq_getElem?_getD, List.getElem?_take_of_lt (by omega), List.getElem?_drop, show 16 * (K / 16) + K % 16 = K by omega]
theorem own_bytes {w : World} {base n c : Nat} {A : Option Addr} {l : Bytes} (h : w.ownsRow base 5 1 (.slice A n c) n (b8 l)) (hn : 0 < n) : ∃ g, A = some ⟨g, 0, none⟩ ∧ l.length = n ∧ ∀ j (hj : j < l.length), w.cell? ⟨g, 0 + j, none⟩ = some (.int .u8 (l[j].toNat : Int)) := by
  have hl : l.length = n := by simpa [b8_length] using h.1
  rcases h.2 with ⟨_, h2⟩ | ⟨g, cap, cur, h1, _, h3, h4, _, h6, h7⟩
  · omega
  · injection h1 with h1 _ _
    refine ⟨g, h1, hl, fun j hj => ?_⟩
    have h8 : (cur.toList.take (n * 1))[j]? = (b8 l)[j]? := by rw [h7]
    rw [List.getElem?_take_of_lt (by omega)] at h8
    rw [Nat.zero_add, blk_cell h3]
    simp only [b8, List.getElem?_map, List.getElem?_eq_getElem hj] at h8
    simpa using h8
theorem IsBoard.mc_le {w : World} {b : Nat} {r : BR} {M : Bytes} {fs : List Cache} (h : IsBoard w b r M fs) : 4096 ≤ r.mc := by
  rcases h.mem.2 with ⟨h1, _⟩ | ⟨g, cap, cur, h1, _, h3, h4, _, h6, h7⟩
  · cases h1
  · injection h1 with h1 _ h1c
    omega
theorem run_cut_mem (w : World) (g n c l m : Nat) (h1 : l ≤ m) (h2 : m ≤ c) (h3 : ¬ c = l) :
    (Instr.slice 53 (.slice (some ⟨g, 0, none⟩) n c) (some (.int .i64 (l : Int))) (some (.int .i64 (m : Int))) none).run Tryd.prog w = .ok (.slice (some ⟨g, l, none⟩) (m - l) (c - l)) w := by
  have h1 : (0 : Int) ≤ l := by omega
  have h2 : (l : Int) ≤ m := by omega
  have h4 : (m : Int) ≤ c := by omega
  go_simp
/-- Behind the append of a byte. -/
theorem fetch_next {w wo w2 : World} {b m0 : Nat} {r : BR} {M : Bytes} {fs : List Cache} {c K j co g cap a A : Nat} {Ao : Option Addr} (hH : IsBoard w b r M fs)
    (h : wo.ownsRow w.heap.size 5 1 (.slice Ao j co) j (b8 ((M.drop A).take j)) ∧ IsBoard wo b r M (fs.set c (fill M a K (fs.getD c (fun _ => none)))) ∧ Keep (fun k => k = m0) w wo)
    (hn : (M.drop A).take (j + 1) = (M.drop A).take j ++ [M.getD K 0]) (hf : fill M a (K + 1) (fs.getD c (fun _ => none)) = fill M a K (fs.getD c (fun _ => none))) {o : Obj}
    (hown : w2.ownsRow w.heap.size 5 1 (.slice (some ⟨g, 0, none⟩) (j + 1) cap) (j + 1) (b8 ((M.drop A).take j) ++ [.int .u8 ((M.getD K 0).toNat : Int)])) (hg : (wo.alloc o).grownBy w2 (Value.slice Ao j co).ownBlock) :
    w2.ownsRow w.heap.size 5 1 (.slice (some ⟨g, 0, none⟩) (j + 1) cap) (j + 1) (b8 ((M.drop A).take (j + 1))) ∧ IsBoard w2 b r M (fs.set c (fill M a (K + 1) (fs.getD c (fun _ => none)))) ∧ Keep (fun k => k = m0) w w2 := by
  have hk : Keep (fun k => (Value.slice Ao j co).ownBlock = some k) wo w2 := ((Keep.refl _ wo).alloc o).grown hg (fun k e => .inl e)
  have hb := h.2.1.keep hk (fun k hkf e => by
    have h1 := hH.foot_lt k hkf
    have h2 := own_low h.1 e
    omega)
  refine ⟨by rw [hn, b8_append]; exact hown, by rw [hf]; exact hb, ?_⟩
  · exact h.2.2.then hk (fun i e => .inr (own_low h.1 e))
theorem fetch_next2 {w wo w2 : World} {b m0 : Nat} {r : BR} {M : Bytes} {fs : List Cache} {c K j co g cap a A : Nat} {Ao : Option Addr} (hH : IsBoard w b r M fs)
    (h : wo.ownsRow w.heap.size 5 1 (.slice Ao j co) j (b8 ((M.drop A).take j)) ∧ IsBoard wo b r M (fs.set c (fill M a (K + 1) (fs.getD c (fun _ => none)))) ∧ Keep (fun k => k = m0) w wo)
    (hn : (M.drop A).take (j + 1) = (M.drop A).take j ++ [M.getD K 0]) {o : Obj}
    (hown : w2.ownsRow w.heap.size 5 1 (.slice (some ⟨g, 0, none⟩) (j + 1) cap) (j + 1) (b8 ((M.drop A).take j) ++ [.int .u8 ((M.getD K 0).toNat : Int)])) (hg : (wo.alloc o).grownBy w2 (Value.slice Ao j co).ownBlock) :
    w2.ownsRow w.heap.size 5 1 (.slice (some ⟨g, 0, none⟩) (j + 1) cap) (j + 1) (b8 ((M.drop A).take (j + 1))) ∧ IsBoard w2 b r M (fs.set c (fill M a (K + 1) (fs.getD c (fun _ => none)))) ∧ Keep (fun k => k = m0) w w2 := by
  have hk : Keep (fun k => (Value.slice Ao j co).ownBlock = some k) wo w2 := ((Keep.refl _ wo).alloc o).grown hg (fun k e => .inl e)
  have hb := h.2.1.keep hk (fun k hkf e => by
    have h1 := hH.foot_lt k hkf
    have h2 := own_low h.1 e
    omega)
  exact ⟨by rw [hn, b8_append]; exact hown, hb, h.2.2.then hk (fun i e => .inr (own_low h.1 e))⟩
set_option maxRecDepth 100000 in
set_option maxHeartbeats 4000000 in
theorem fetch_any {w : World} {b : Nat} {r : BR} {M : Bytes} {fs : List Cache} (h : IsBoard w b r M fs) (c a n : Nat) (hc : c < fs.length) (hn0 : 0 < n) (hn : 16 * a + n ≤ 4096)
    (hco : ∀ k : Nat, a ≤ k → 16 * k < 16 * a + n → (fs.getD c (fun _ => none)) k = none ∨ (fs.getD c (fun _ => none)) k = some (line M k)) :
    Calls Tryd.prog 33 #[.pointer (some ⟨b, 0, none⟩), .int .i64 c, .int .i64 ((16 * a : Nat) : Int), .int .i64 n] w fun e w' => e = .returned (.tuple #[.string (sb ((M.drop (16 * a)).take n)), .int .i64 0]) ∧ IsBoard w' b r M (fs.set c (fill M a (16 * a + n) (fs.getD c (fun _ => none)))) ∧ Keep (fun k => k = r.ms.getD c 0) w w' := by
  have H := Lib.hid h
  have c1 := h.c1
  have HI := Lib.hid (inside_any h (16 * a) n hn)
  have g1 : decide (fs.length ≤ c) = false := by simpa using hc
  have e1 := h.map hc
  obtain ⟨A, hA⟩ : ∃ A, 16 * a = A := ⟨_, rfl⟩
  rw [hA] at HI
  rw [hA]
  have HA := Lib.hid hA
  have HCO := Lib.hid hco
  have hA2 : A + n ≤ 4096 := by omega
  clear h hA hco
  obtain ⟨m0, hm0⟩ : ∃ m, r.ms.getD c 0 = m := ⟨_, rfl⟩
  have HM := Lib.hid hm0
  rw [hm0] at e1
  rw [hm0]
  clear hm0
  obtain ⟨i0, gi, gz0, gz1, gz2⟩ := info_parts Tryd.bytes.info
  have GI := Lib.hid gi
  have GZ0 := Lib.hid gz0
  have GZ1 := Lib.hid gz1
  have GZ2 := Lib.hid gz2
  clear gi gz0 gz1 gz2
  go_enter Tryd.func33, Tryd.ntmps33
  go_wp2_with fail
  ((with_reducible refine HI.out.mono ?_); rintro e w' ⟨rfl, rfl⟩)
  clear HI
  go_wp2_with fail
  go_loopw [11, 12] (fun o i wr => ∃ (K j : Nat), (A ≤ K ∧ K ≤ A + n) ∧ i = .int .i64 (K : Int) ∧ Hid (K = A + j) ∧ ∃ Ao co, o = .slice Ao j co ∧ Hid (wr.ownsRow w.heap.size 5 1 (.slice Ao j co) j (b8 ((M.drop A).take j)) ∧ IsBoard wr b r M (fs.set c (fill M a K (fs.getD c (fun _ => none)))) ∧ Keep (fun k => k = m0) w wr)) (fun _ i _ => A + n + 1 - (RowKit.intOf i).toNat)
  case atStart => exact ⟨A, 0, by omega, rfl, Lib.hid rfl, _, _, rfl, Lib.hid ⟨World.ownsRow_nil _ _ _ _, by rw [← HA.out, fill_start, set_same]; exact H.out, Keep.refl _ _⟩⟩
  case round =>
    obtain ⟨K, j, hK, rfl, hKj, Ao, co, rfl, HB⟩ := hrel
    obtain ⟨wo, rfl⟩ : ∃ wo : World, wo = wr := ⟨_, rfl⟩
    clear c1 e1
    have d0 := HB.out.2.1.c0
    have d1 := HB.out.2.1.c1
    rw [List.length_set] at d1
    have hlen : c < (fs.set c (fill M a K (fs.getD c (fun _ => none)))).length := by rw [List.length_set]; exact hc
    by_cases hlt : K < A + n
    · have hb : decide ((K : Int) < (A : Int) + (n : Int)) = true := by simp; omega
      have hjn : j < n := by have := hKj.out; omega
      have hfs := HB.out.2.1.maps c hlen
      rw [getD_set_self _ _ _ _ hc, HM.out] at hfs
      obtain ⟨q, hq⟩ : ∃ q, K / 16 = q := ⟨_, rfl⟩
      obtain ⟨p, hp⟩ : ∃ p, K % 16 = p := ⟨_, rfl⟩
      have hqi : (K : Int) / 16 = (q : Int) := by omega
      have hpi : (K : Int) % 16 = (p : Int) := by omega
      have hp16 : p < 16 := by omega
      have hq256 : 16 * q + 16 ≤ 4096 := by omega
      have hl1 := hfs.look_ok Tryd.underlying3 Tryd.underlying110 Tryd.underlying9 (by kernel_rfl) (i := (q : Int)) (wf64 (by omega))
      have hl2 := hfs.look Tryd.underlying3 Tryd.underlying110 Tryd.underlying9 (by kernel_rfl) (i := (q : Int)) (wf64 (by omega))
      have hMl := HB.out.2.1.len
      have hnext : (M.drop A).take (j + 1) = (M.drop A).take j ++ [M.getD K 0] := by
        have hKA := hKj.out
        rw [List.take_add_one, List.getElem?_drop, ← hKA, List.getElem?_eq_getElem (by omega), List.getD_eq_getElem?_getD, List.getElem?_eq_getElem (by omega)]
        rfl
      have hget : (line M q).getD p 0 = M.getD K 0 := by rw [← hq, ← hp]; exact line_get hMl (by omega)
      have hll := line_len hMl hq256
      have HN := Lib.hid (And.intro hnext hget)
      clear hnext hget
      have hixs : p < (⟨(line M q).toArray⟩ : ByteArray).size := by show p < (line M q).toArray.size; rw [List.size_toArray, hll]; exact hp16
      have hix : (⟨(line M q).toArray⟩ : ByteArray)[p]'hixs = M.getD K 0 := by
        rw [← HN.out.2, List.getD_eq_getElem?_getD, List.getElem?_eq_getElem (by omega)]
        rfl
      have HX := Lib.hid hix
      clear hix hll hMl
      cases hfq : fill M a K (fs.getD c (fun _ => none)) (q : Int) with
      | some l =>
        rw [hfq] at hl1 hl2
        simp only [Option.getD_some, Option.isSome_some] at hl1 hl2
        have hfK : fill M a (K + 1) (fs.getD c (fun _ => none)) = fill M a K (fs.getD c (fun _ => none)) ∧ l = line M q := by
          have hKA := HA.out
          by_cases hin : 16 * q < K
          · have e : fill M a K (fs.getD c (fun _ => none)) (q : Int) = some (line M q) := by
              unfold fill
              rw [if_pos (by omega)]
              rfl
            rw [e] at hfq
            refine ⟨?_, (Option.some.inj hfq).symm⟩
            funext i
            unfold fill
            by_cases h2 : (a : Int) ≤ i ∧ 16 * i < (K : Int)
            · rw [if_pos h2, if_pos (by omega)]
            · rw [if_neg h2, if_neg (by omega)]
          · have e : fill M a K (fs.getD c (fun _ => none)) (q : Int) = fs.getD c (fun _ => none) (q : Int) := by
              unfold fill
              rw [if_neg (by omega)]
            rw [e] at hfq
            rcases HCO.out q (by omega) (by omega) with h0 | h0
            · rw [h0] at hfq; cases hfq
            · have hlq := h0
              rw [hfq] at hlq
              exact ⟨fill_hit M a K _ (by omega) (.inl (by rw [hq]; exact h0)), Option.some.inj hlq⟩
        obtain ⟨hfK, rfl⟩ := hfK
        have HF := Lib.hid hfK
        clear hfs hq hp hfq hfK
        go_wp2_with (at_builtin; go_loud (refine wpList_append_lies _ rfl _ _ _ rfl w.heap.size 5 i0 _ 1 1 Tryd.bytes.ht GI.out GZ0.out GZ1.out GZ2.out rfl (by decide) (.slice Ao j co) j _ rfl (by exact HB.out.1.alloc _) ⟨_, 0, none⟩ 1 1 _ rfl rfl (by exact World.news_of_block (heap_alloc_new _ _)) (by simp [Value.oneCell']) (by omega) (by unfold maxLen; omega) (by omega) (by have := HB.out.2.2.size; simp; omega) _ rfl ?_); intro g cap w2 hown hgrow hat hlt2; rw [HX.out] at hown; have HB2 := Lib.hid (fetch_next H.out HB.out HN.out.1 HF.out hown hgrow); clear hown hgrow hat hlt2)
        exact ⟨⟨K + 1, j + 1, by omega, by go_num, Lib.hid (by have := hKj.out; omega), _, _, rfl, HB2⟩, by simp [RowKit.intOf]; omega⟩
      | none =>
        rw [hfq] at hl1
        simp only [Option.getD_none, Option.isSome_none] at hl1
        have hmc := HB.out.2.1.mc_le
        obtain ⟨L, hL⟩ : ∃ L, 16 * q = L := ⟨_, rfl⟩
        have hL1 : (q : Int) * 16 = (L : Int) := by omega
        have hL2 : ((q : Int) + 1) * 16 = (L : Int) + 16 := by omega
        have h5 : (L : Int) + 16 ≤ (r.mc : Int) := by omega
        have h6 : ¬ r.mc = L := by omega
        have hll := line_len HB.out.2.1.len hq256
        have hcv : (convert 53 9 (.slice (some ⟨r.mb, L, none⟩) 16 (r.mc - L))).run Tryd.prog wo = .ok (.string (sb (line M q))) wo := by
          have := run_string_mem (w := wo) r.mb L (r.mc - L) (line M q) (fun j hj => by rw [← hL]; exact HB.out.2.1.line_cell q hq256 j hj)
          rwa [hll] at this
        obtain ⟨wd, hput, hfd, hkd⟩ := hfs.put Tryd.underlying3 Tryd.underlying110 Tryd.underlying9 (Nat.lt_of_le_of_lt (cnt_le _) (by unfold maxLen; omega)) (i := (q : Int)) (wf64 (by omega)) (s := sb (line M q)) (by rw [sb_size, hll]; unfold maxLen; omega)
        have hfun : (fun j => if j = (q : Int) then some (sb (line M q)).data.toList else fill M a K (fs.getD c (fun _ => none)) j) = fill M a (K + 1) (fs.getD c (fun _ => none)) := by
          have := fill_miss M a K (fs.getD c (fun _ => none)) (by have := HA.out; omega)
          rw [hq] at this
          exact this
        have hcn : (if (fill M a K (fs.getD c (fun _ => none)) (q : Int)).isSome then cnt (fill M a K (fs.getD c (fun _ => none))) else cnt (fill M a K (fs.getD c (fun _ => none))) + 1) = cnt (fill M a (K + 1) (fs.getD c (fun _ => none))) := by
          rw [← hfun]
          have := cnt_one (f := fill M a K (fs.getD c (fun _ => none))) (f' := fun j => if j = (q : Int) then some (sb (line M q)).data.toList else fill M a K (fs.getD c (fun _ => none)) j) (q := q) (by omega) (fun k hk => by simp only [if_neg hk])
          rw [hfq] at this ⊢
          simp at this ⊢
          omega
        rw [hfun, hcn] at hfd
        have hl3 := hfd.look Tryd.underlying3 Tryd.underlying110 Tryd.underlying9 (by kernel_rfl) (i := (q : Int)) (wf64 (by omega))
        have hfq2 : fill M a (K + 1) (fs.getD c (fun _ => none)) (q : Int) = some (line M q) := by
          have := congrFun hfun (q : Int)
          simp only [if_true] at this
          exact this.symm
        rw [hfq2] at hl3
        simp only [Option.getD_some] at hl3
        have HB1 : Hid (wd.ownsRow w.heap.size 5 1 (.slice Ao j co) j (b8 ((M.drop A).take j)) ∧ IsBoard wd b r M (fs.set c (fill M a (K + 1) (fs.getD c (fun _ => none)))) ∧ Keep (fun k => k = m0) w wd) := by
          have hbt := HB.out.2.1.turn hlen (by rw [HM.out]; exact hfd) (by rw [HM.out]; exact hkd)
          rw [List.set_set] at hbt
          have hm0 : m0 < w.heap.size := by
            have := H.out.foot_lt m0 (.inr (.inr (.inr (HM.out ▸ getD_mem (by rw [H.out.msl]; exact hc)))))
            exact this
          exact Lib.hid ⟨hkd.own HB.out.1 (fun k e hf => by have := own_low HB.out.1 e; omega), hbt, Keep.trans HB.out.2.2 hkd⟩
        clear hfs hq hp hfq hfd hkd hfun hcn hfq2 hl2 hL hll hmc
        go_wp2_with (at_builtin; go_loud (refine wpList_append_lies _ rfl _ _ _ rfl w.heap.size 5 i0 _ 1 1 Tryd.bytes.ht GI.out GZ0.out GZ1.out GZ2.out rfl (by decide) (.slice Ao j co) j _ rfl (by exact HB1.out.1.alloc _) ⟨_, 0, none⟩ 1 1 _ rfl rfl (by exact World.news_of_block (heap_alloc_new _ _)) (by simp [Value.oneCell']) (by omega) (by unfold maxLen; omega) (by omega) (by have := HB1.out.2.2.size; simp; omega) _ rfl ?_); intro g cap w2 hown hgrow hat hlt2; rw [HX.out] at hown; have HB2 := Lib.hid (fetch_next2 H.out HB1.out HN.out.1 hown hgrow); clear hown hgrow hat hlt2)
        exact ⟨⟨K + 1, j + 1, by omega, by go_num, Lib.hid (by have := hKj.out; omega), _, _, rfl, HB2⟩, by simp [RowKit.intOf]; omega⟩
    · have hb : decide ((K : Int) < (A : Int) + (n : Int)) = false := by simp; omega
      obtain rfl : K = A + n := by omega
      obtain rfl : j = n := by have := hKj.out; omega
      obtain ⟨g, rfl, hln, hcells⟩ := own_bytes HB.out.1 hn0
      have hcv := run_string_mem g 0 co _ hcells
      rw [hln] at hcv
      clear hcells hln
      go_wp2_with fail
      go_ret2
      have hbb := HB.out.2.1
      simp only [List.getD_eq_getElem?_getD, List.getElem?_eq_getElem hc, Option.getD_some] at hbb
      exact ⟨rfl, hbb, HB.out.2.2⟩
end Go.Proofs.YtnhajhejkecihaaDoor
/- Install: machine.New. -/
namespace Go.Proofs.YtnhajhejkecihaaDoor
open Go.RowKit Go.Lib
set_option linter.unusedVariables false
set_option linter.unusedSimpArgs false

/-- A board whose caches are being made. -/
structure NB (w : World) (b : Nat) (k c : Nat) (A : Option Addr) (ms : List Nat) (W : World) : Prop where
  hdr : W.heap[b]? = some (.cells #[.slice (some ⟨w.heap.size, 0, none⟩) 4096 4096, .slice A k c] 109 (0, 0))
  mem : W.ownsRow 0 5 1 (.slice (some ⟨w.heap.size, 0, none⟩) 4096 4096) 4096 (b8 (List.replicate 4096 0))
  row : W.ownsRow w.heap.size 110 1 (.slice A k c) k (ms.map fun m => .map (some m))
  maps : ∀ m ∈ ms, w.heap.size ≤ m ∧ FS Tryd.prog 3 9 W m (fun _ => none) 0
  nodup : ms.Nodup
  since : Since w.heap.size w W
  low : w.heap.size ≤ b
theorem heap_alloc_new2 (w : World) (o o' : Obj) : ((w.alloc o).alloc o').heap[w.heap.size + 1]? = some o' := by simpa using heap_alloc_new (w.alloc o) o'
theorem maps_one (ms : List Nat) : ∀ u ∈ (ms.map fun m => Value.map (some m)), u.oneCell' = true := by
  intro u hu
  obtain ⟨m, _, rfl⟩ := List.mem_map.1 hu
  rfl
theorem NB.next {w W w2 : World} {b k c g cap : Nat} {A : Option Addr} {ms : List Nat} (h : NB w b k c A ms W) {o : Obj}
    (hown : w2.ownsRow w.heap.size 110 1 (.slice (some ⟨g, 0, none⟩) (k + 1) cap) (k + 1) ((ms.map fun m => Value.map (some m)) ++ [.map (some W.heap.size)])) (hg : ((W.alloc (.map #[] 0)).alloc o).grownBy w2 (Value.slice A k c).ownBlock) :
    NB w b (k + 1) cap (some ⟨g, 0, none⟩) (ms ++ [W.heap.size]) (w2.setCell ⟨b, 1, none⟩ (.slice (some ⟨g, 0, none⟩) (k + 1) cap)) ∧ w2.cell? ⟨b, 1, none⟩ = some (.slice A k c) ∧ w2.frozen? ⟨b, 1, none⟩ = false := by
  have hk : Keep (fun i => (Value.slice A k c).ownBlock = some i) W w2 := (((Keep.refl _ W).alloc (.map #[] 0)).alloc o).grown hg (fun k e => .inl e)
  have hb : w2.heap[b]? = some (.cells #[.slice (some ⟨w.heap.size, 0, none⟩) 4096 4096, .slice A k c] 109 (0, 0)) := (hk.block b (blk_lt h.hdr) (fun e => blk_own_ne h.hdr h.row e (by decide) rfl)).trans h.hdr
  have hs := keep_set (Keep.refl (fun i => i = b) w2) 1 (.slice (some ⟨g, 0, none⟩) (k + 1) cap)
  have hb2 := blk_set hb 1 (.slice (some ⟨g, 0, none⟩) (k + 1) cap)
  have hm2 : w2.ownsRow 0 5 1 (.slice (some ⟨w.heap.size, 0, none⟩) 4096 4096) 4096 (b8 (List.replicate 4096 0)) := hk.own h.mem (fun i e hf => by
    obtain ⟨cur, hc⟩ := own_type h.mem e
    exact blk_own_ne hc h.row hf (by decide) rfl)
  have mapcell : ∀ {U : World} {m n : Nat} {f : Cache} {cs : Array Value} {t : TypeId}, FS Tryd.prog 3 9 U m f n → U.heap[m]? = some (.cells cs t (0, 0)) → False := fun hf hc => by
    obtain ⟨es, ck, hm⟩ := fs_map hf
    rw [hc] at hm
    cases hm
  have hnew : FS Tryd.prog 3 9 w2 W.heap.size (fun _ => none) 0 := by
    have h1 := (FS.made (P := Tryd.prog) (k := 3) (e := 9) W).keep ((Keep.refl (fun _ => False) (W.alloc (.map #[] 0))).alloc' o) id
    exact h1.keep ((Keep.refl (fun i => (Value.slice A k c).ownBlock = some i) _).grown hg (fun k e => .inl e)) (fun e => by have := own_lt h.row _ e; omega)
  have hall : ∀ m ∈ ms ++ [W.heap.size], w.heap.size ≤ m ∧ FS Tryd.prog 3 9 w2 m (fun _ => none) 0 := fun m hm => by
    rcases List.mem_append.1 hm with hm | hm
    · exact ⟨(h.maps m hm).1, (h.maps m hm).2.keep hk (fun e => by
        obtain ⟨cur, hc⟩ := own_type h.row e
        exact mapcell (h.maps m hm).2 hc)⟩
    · obtain rfl := List.mem_singleton.1 hm
      exact ⟨h.since.size, hnew⟩
  refine ⟨⟨hb2, hs.own hm2 (fun i e hf => blk_own_ne hb hm2 e (by decide) hf), ?_, fun m hm => ⟨(hall m hm).1, (hall m hm).2.keep hs (fun e => by subst e; exact mapcell (hall _ hm).2 hb)⟩, ?_, ?_, h.low⟩, (blk_cell hb 1).trans rfl, blk_free hb 1⟩
  · have := hs.own hown (fun i e hf => blk_own_ne hb hown e (by decide) hf)
    rw [List.map_append]
    exact this
  · rw [List.nodup_append]
    refine ⟨h.nodup, by simp, fun x hx y hy => ?_⟩
    rw [List.mem_singleton.1 hy]
    have := (h.maps x hx).2.lt
    omega
  · exact Keep.trans (Keep.trans h.since (Keep.mono hk (fun i e => own_low h.row e))) (Keep.mono hs (fun i e => by have := h.low; omega))
set_option maxRecDepth 100000 in
set_option maxHeartbeats 4000000 in
theorem board_new (w : World) (n : Nat) (hn : 1 ≤ n ∧ n ≤ 4) : Calls Tryd.prog 44 #[.int .i64 n] w fun e w' => ∃ b r, e = .returned (.tuple #[.pointer (some ⟨b, 0, none⟩), .int .i64 0]) ∧ IsBoard w' b r (List.replicate 4096 0) (List.replicate n (fun _ => none)) ∧ (∀ k, r.foot b k → w.heap.size ≤ k) ∧ Since w.heap.size w w' := by
  have hmm := @run_makeMap Tryd.prog
  have hmk : ∀ W : World, (Instr.makeSlice 53 (.int .i64 4096) (.int .i64 4096)).run Tryd.prog W = .ok (.slice (some ⟨W.heap.size, 0, none⟩) 4096 4096) (W.alloc (.cells (madeCells #[.int .u8 0] 4096) 5)) :=
    fun W => run_make_row' 53 5 (.int .u8 0) 1 Tryd.bytes.ht Tryd.bytes.info rfl .i64 .i64 4096 (by omega) (by omega) W
  have hwi : ∀ W, Calls Tryd.prog 64 #[.int .i64 n, .int .i64 1, .int .i64 4] W fun e w' => e = .returned (.bool true) ∧ W = w' := fun W => by
    have g1 : decide ((1 : Int) ≤ (n : Int)) = true := by simp; omega
    have g2 : decide ((n : Int) ≤ 4) = true := by simp; omega
    have g3 : decide (1 ≤ n) = true := by simp; omega
    have g4 : decide (n ≤ 4) = true := by simp; omega
    clear hmm hmk
    go_enter Tryd.func64, Tryd.ntmps64
    go_wp2_with fail
    go_ret
    exact ⟨rfl, rfl⟩
  obtain ⟨j0, gi, gz0, gz1, gz2⟩ := info_parts (show (Tryd.prog.info? 110).map (fun i => (i.zero, i.size, i.bytes)) = some (some (.map none), 1, 8) by kernel_rfl)
  have GI := Lib.hid gi
  have GZ0 := Lib.hid gz0
  have GZ1 := Lib.hid gz1
  have GZ2 := Lib.hid gz2
  have HW := Lib.hid hwi
  clear gi gz0 gz1 gz2 hwi
  go_enter Tryd.func44, Tryd.ntmps44
  go_wp2_with fail
  ((with_reducible refine (HW.out _).mono ?_); rintro e w' ⟨rfl, rfl⟩)
  clear HW
  go_wp2_with fail
  have V0 : Hid (NB w (w.heap.size + 1) 0 0 none [] ((w.alloc (.cells (madeCells #[.int .u8 0] 4096) 5)).alloc (.cells #[.slice (some ⟨w.heap.size, 0, none⟩) 4096 4096, .slice none 0 0] 109))) := by
    have hz : (madeCells #[Value.int .u8 0] 4096).toList = b8 (List.replicate 4096 0) := by rw [toList_madeCells_one, b8_zeros]
    refine Lib.hid ⟨by simpa using heap_alloc_new (w.alloc (.cells (madeCells #[.int .u8 0] 4096) 5)) (.cells #[.slice (some ⟨w.heap.size, 0, none⟩) 4096 4096, .slice none 0 0] 109), ?_, World.ownsRow_nil _ _ _ _, by simp, by simp, Since.of (((Keep.refl (fun _ => False) w).alloc' _).alloc' _), by omega⟩
    have hsz : (madeCells #[Value.int .u8 0] 4096).size = 4096 := by rw [← Array.length_toList, hz, b8_length, List.length_replicate]
    exact ⟨by rw [b8_length, List.length_replicate], .inr ⟨w.heap.size, 4096, madeCells #[.int .u8 0] 4096, rfl, Nat.zero_le _, alloc_old' (heap_alloc_new w _), Nat.le_refl _, by unfold maxLen; omega, by rw [hsz], by rw [hz, List.take_of_length_le (by rw [b8_length, List.length_replicate]; omega)]⟩⟩
  obtain ⟨W0, hW⟩ : ∃ W0, ((w.alloc (.cells (madeCells #[.int .u8 0] 4096) 5)).alloc (.cells #[.slice (some ⟨w.heap.size, 0, none⟩) 4096 4096, .slice none 0 0] 109)) = W0 := ⟨_, rfl⟩
  obtain ⟨b, hb⟩ : ∃ b, w.heap.size + 1 = b := ⟨_, rfl⟩
  rw [hW, hb] at V0
  rw [hW, hb]
  have HNB := Lib.hid (show w.heap.size ≤ b by omega)
  obtain ⟨B0, hB0⟩ : ∃ B0, w.heap.size = B0 := ⟨_, rfl⟩
  have HB0 := Lib.hid hB0
  rw [hB0]
  clear hW hb hmk hB0
  go_loopw [12] (fun i wr => ∃ k : Nat, k ≤ n ∧ i = .int .i64 (k : Int) ∧ ∃ (A : Option Addr) (c : Nat) (ms : List Nat), Hid (NB w b k c A ms wr)) (fun i _ => n + 1 - (RowKit.intOf i).toNat)
  case atStart => exact ⟨0, Nat.zero_le _, rfl, _, _, _, V0⟩
  case round =>
    obtain ⟨k, hk, rfl, A, c, ms, VV⟩ := hrel
    obtain ⟨wo, rfl⟩ : ∃ wo : World, wo = wr := ⟨_, rfl⟩
    clear V0
    have d1 : wo.cell? ⟨b, 1, none⟩ = some (.slice A k c) := (blk_cell VV.out.hdr 1).trans rfl
    by_cases hlt : k < n
    · have hbb : decide (k < n) = true := by simpa using hlt
      go_wp2_with (at_builtin; go_loud (refine wpList_append_lies _ rfl _ _ _ rfl w.heap.size 110 j0 _ 1 8 Tryd.underlying107 GI.out GZ0.out GZ1.out GZ2.out rfl (by decide) (.slice A k c) k _ rfl (by exact (VV.out.row.alloc _).alloc _) ⟨_, 0, none⟩ 1 1 _ rfl rfl (by first | exact World.news_of_block (heap_alloc_new _ _) | exact World.news_of_block (heap_alloc_new2 _ _ _)) (by simp [Value.oneCell']) (by omega) (by unfold maxLen; omega) (by omega) (by have := VV.out.since.size; simp; omega) _ rfl ?_); intro g cap w2 hown hgrow hat hlt2; obtain ⟨hn1, hn2, hn3⟩ := VV.out.next hown hgrow; have VN := Lib.hid hn1; clear hown hgrow hat hlt2 hn1)
      exact ⟨⟨k + 1, by omega, by go_num, _, _, _, VN⟩, by simp [RowKit.intOf]; omega⟩
    · have hbb : decide (k < n) = false := by simpa using hlt
      obtain rfl : k = n := by omega
      go_wp2_with fail
      go_ret2
      have hl : ms.length = k := by simpa using VV.out.row.1
      rcases VV.out.row.2 with ⟨h1, h2⟩ | ⟨g, cap, cur, h1, h2, h3, h4, h5, h6, h7⟩
      · omega
      · injection h1 with e1 _ e3
        subst e1 e3
        refine ⟨b, ⟨w.heap.size, 4096, g, c, ms⟩, rfl, ⟨by rw [List.length_replicate]; exact VV.out.hdr, VV.out.mem, by rw [List.length_replicate]; exact own_zero VV.out.row, fun i hi => ?_, VV.out.nodup, by rw [List.length_replicate]⟩, ?_, VV.out.since⟩
        · rw [List.length_replicate] at hi
          have e : (List.replicate k (fun _ => none : Cache)).getD i (fun _ => none) = fun _ => none := by simp [List.getD_eq_getElem?_getD, List.getElem?_replicate, hi]
          rw [e]
          have hc0 : cnt (fun _ => none) = 0 := by simp [cnt]
          rw [hc0]
          exact (VV.out.maps _ (getD_mem (by rw [hl]; exact hi))).2
        · rintro q (rfl | rfl | rfl | hq)
          · exact VV.out.low
          · exact Nat.le_refl _
          · exact h2
          · exact (VV.out.maps q hq).1
end Go.Proofs.YtnhajhejkecihaaDoor
/- Install: a store in memory; closed, cpu, lines. -/
namespace Go.Proofs.YtnhajhejkecihaaDoor
open Go.RowKit Go.Lib
set_option linter.unusedVariables false

/-- The other fields of a module. -/
structure MX where
  (x0 x1 x2 x3 x4 x5 x6 x7 : Value)
  one : x0.oneCell' = true ∧ x1.oneCell' = true ∧ x2.oneCell' = true ∧ x3.oneCell' = true ∧ x4.oneCell' = true ∧ x5.oneCell' = true ∧ x6.oneCell' = true ∧ x7.oneCell' = true
def mcells (b : Bytes) (x : MX) : List Value := [x.x0, x.x1, .string (sb b), x.x2, x.x3, x.x4, x.x5, x.x6, x.x7]
theorem MX.all (x : MX) (b : Bytes) : (mcells b x).toArray.all (·.oneCell') = true := by
  obtain ⟨h0, h1, h2, h3, h4, h5, h6, h7⟩ := x.one
  simp [mcells, h0, h1, h2, h3, h4, h5, h6, h7]
  rfl
def ecells (e : ME) (x : MX) (o : Nat) : List Value := [.int .i64 e.id, .int .i64 ((16 * e.a : Nat) : Int), x.x0, x.x1, .string (sb e.bytes), x.x2, x.x3, x.x4, x.x5, x.x6, x.x7, .bool e.dropped, .map (some o)]
/-- Where a store lies. -/
structure SR where
  bb : Nat
  br : BR
  ib : Nat
  ic : Nat
  A : Option Addr
  ac : Nat
  es : List Nat
  os : List Nat
  xs : List MX
def SR.foot (r : SR) (p k : Nat) : Prop := k = p ∨ r.br.foot r.bb k ∨ k = r.ib ∨ (∃ a, r.A = some a ∧ k = a.block) ∨ k ∈ r.es ∨ k ∈ r.os
def owedS (l : List Bool) : Int → Bool := fun i => decide (0 ≤ i) && l.getD i.toNat false
def MX.dflt : MX := ⟨.int .i64 0, .int .i64 0, .int .i64 0, .int .i64 0, .int .i64 0, .int .i64 0, .int .i64 0, .int .i64 0, ⟨rfl, rfl, rfl, rfl, rfl, rfl, rfl, rfl⟩⟩
def ME.dflt : ME := ⟨0, 0, [], false, []⟩
/-- The memory and the caches do not lie about a module. -/
structure Coh (s : MS) (M : Bytes) (fs : List Cache) : Prop where
  len : fs.length = s.inn.length
  mem : ∀ e ∈ s.all, (M.drop (16 * e.a)).take e.bytes.length = e.bytes
  cache : ∀ c, c < fs.length → ∀ e ∈ s.all, e.owed.getD c false = false → ∀ k : Nat, e.a ≤ k → k < e.stop → (fs.getD c (fun _ => none)) k = none ∨ (fs.getD c (fun _ => none)) k = some (line M k)
structure IsStore (n : Nat) (w : World) (p : Nat) (r : SR) (s : MS) : Prop where
  hdr : w.heap[p]? = some (.cells #[.pointer (some ⟨r.bb, 0, none⟩), .slice (some ⟨r.ib, 0, none⟩) s.inn.length r.ic, .slice r.A s.all.length r.ac, .int .i64 s.next] 63 (0, 0))
  board : ∃ M fs, IsBoard w r.bb r.br M fs ∧ Coh s M fs
  inn : w.ownsRow 0 3 1 (.slice (some ⟨r.ib, 0, none⟩) s.inn.length r.ic) s.inn.length (ints s.inn)
  row : w.ownsRow 0 70 1 (.slice r.A s.all.length r.ac) s.all.length (r.es.map fun b => .pointer (some ⟨b, 0, none⟩))
  ents : ∀ i, i < s.all.length → w.heap[r.es.getD i 0]? = some (.cells (ecells (s.all.getD i ME.dflt) (r.xs.getD i MX.dflt) (r.os.getD i 0)).toArray 73 (0, 0)) ∧
    FB Tryd.prog 3 4 w (r.os.getD i 0) (owedS (s.all.getD i ME.dflt).owed) ((s.all.getD i ME.dflt).owed.count true)
  esN : r.es.Nodup
  maps : (r.br.ms ++ r.os).Nodup
  oslen : r.os.length = s.all.length ∧ r.xs.length = s.all.length
  low : ∀ k, r.foot p k → n ≤ k
  inv : s.Inv
section
variable {n : Nat} {w w' : World} {p : Nat} {r : SR} {s : MS}
theorem IsStore.eslen (h : IsStore n w p r s) : r.es.length = s.all.length := by
  have := h.row.1
  simpa using this
theorem fb_map {w : World} {b c : Nat} {S : Int → Bool} (h : FB Tryd.prog 3 4 w b S c) : ∃ es clock, w.heap[b]? = some (.map es clock) := by
  obtain ⟨D, ⟨es, clock, hb, _⟩, _⟩ := h
  exact ⟨es, clock, hb⟩
theorem IsStore.c0 (h : IsStore n w p r s) : w.cell? ⟨p, 0, none⟩ = some (.pointer (some ⟨r.bb, 0, none⟩)) := (blk_cell h.hdr 0).trans rfl
theorem IsStore.c1 (h : IsStore n w p r s) : w.cell? ⟨p, 1, none⟩ = some (.slice (some ⟨r.ib, 0, none⟩) s.inn.length r.ic) := (blk_cell h.hdr 1).trans rfl
theorem IsStore.c2 (h : IsStore n w p r s) : w.cell? ⟨p, 2, none⟩ = some (.slice r.A s.all.length r.ac) := (blk_cell h.hdr 2).trans rfl
theorem IsStore.c3 (h : IsStore n w p r s) : w.cell? ⟨p, 3, none⟩ = some (.int .i64 s.next) := (blk_cell h.hdr 3).trans rfl
theorem IsStore.ptr (h : IsStore n w p r s) {i : Nat} (hi : i < s.all.length) : ∃ g, r.A = some ⟨g, 0, none⟩ ∧ w.cell? ⟨g, i, none⟩ = some (.pointer (some ⟨r.es.getD i 0, 0, none⟩)) := by
  rcases h.row.2 with ⟨_, h2⟩ | ⟨g, cap, cur, h1, _, h3, h4, _, h6, h7⟩
  · omega
  · injection h1 with h1 _ _
    have he : i < r.es.length := by rw [h.eslen]; exact hi
    have h8 : (cur.toList.take (s.all.length * 1))[i]? = (r.es.map fun b => Value.pointer (some ⟨b, 0, none⟩))[i]? := by rw [h7]
    rw [List.getElem?_take_of_lt (by omega), List.getElem?_map, List.getElem?_eq_getElem he] at h8
    refine ⟨g, h1, ?_⟩
    rw [blk_cell h3, List.getD_eq_getElem?_getD, List.getElem?_eq_getElem he]
    simpa using h8
theorem IsStore.ecell (h : IsStore n w p r s) {i : Nat} (hi : i < s.all.length) (j : Nat) : w.cell? ⟨r.es.getD i 0, j, none⟩ = (ecells (s.all.getD i ME.dflt) (r.xs.getD i MX.dflt) (r.os.getD i 0))[j]? := by
  rw [blk_cell (h.ents i hi).1, List.getElem?_toArray]
theorem IsStore.keep {F : Nat → Prop} (h : IsStore n w p r s) (hk : Keep F w w') (hF : ∀ k, r.foot p k → ¬ F k) : IsStore n w' p r s := by
  obtain ⟨M, fs, hb, hc⟩ := h.board
  refine ⟨(hk.block p (blk_lt h.hdr) (hF p (.inl rfl))).trans h.hdr, ⟨M, fs, hb.keep hk (fun k hk' => hF k (.inr (.inl hk'))), hc⟩, hk.own h.inn (fun k e => by simp [Value.ownBlock] at e; subst e; exact hF _ (.inr (.inr (.inl rfl)))),
    hk.own h.row (fun k e => ?_), fun i hi => ⟨(hk.block _ (blk_lt (h.ents i hi).1) (hF _ (.inr (.inr (.inr (.inr (.inl (getD_mem (by rw [h.eslen]; exact hi))))))))).trans (h.ents i hi).1, (h.ents i hi).2.keep hk (hF _ (.inr (.inr (.inr (.inr (.inr (getD_mem (by rw [h.oslen.1]; exact hi))))))))⟩, h.esN, h.maps, h.oslen, h.low, h.inv⟩
  cases hA : r.A with
  | none => rw [hA] at e; simp [Value.ownBlock] at e
  | some a =>
    rw [hA] at e
    simp [Value.ownBlock] at e
    subst e
    exact hF _ (.inr (.inr (.inr (.inl ⟨a, hA, rfl⟩))))
theorem IsStore.foot_lt (h : IsStore n w p r s) : ∀ k, r.foot p k → k < w.heap.size := by
  rintro k (rfl | hk | rfl | ⟨a, ha, rfl⟩ | hk | hk)
  · exact blk_lt h.hdr
  · obtain ⟨M, fs, hb, _⟩ := h.board
    exact hb.foot_lt k hk
  · exact own_lt h.inn _ rfl
  · exact own_lt h.row _ (by rw [ha]; rfl)
  · obtain ⟨i, hi, rfl⟩ := List.getElem_of_mem hk
    have := blk_lt (h.ents i (by rw [← h.eslen]; exact hi)).1
    rwa [List.getD_eq_getElem?_getD, List.getElem?_eq_getElem hi] at this
  · obtain ⟨i, hi, rfl⟩ := List.getElem_of_mem hk
    have := (h.ents i (by rw [← h.oslen.1]; exact hi)).2.lt
    rwa [List.getD_eq_getElem?_getD, List.getElem?_eq_getElem hi] at this
/-- New blocks, and what they hold, make no odds to a store. -/
theorem IsStore.since (h : IsStore n w p r s) (hk : Since w.heap.size w w') : IsStore n w' p r s := h.keep hk (fun k hf => by have := h.foot_lt k hf; omega)
theorem IsStore.quiet (h : IsStore n w p r s) (hk : Keep (fun _ => False) w w') : IsStore n w' p r s := h.keep hk (fun _ _ => id)
end
set_option maxRecDepth 100000 in
theorem closed_any {n : Nat} {w : World} {p : Nat} {r : SR} {s : MS} (h : IsStore n w p r s) : Calls Tryd.prog 27 #[.pointer (some ⟨p, 0, none⟩)] w fun e w' => e = .returned (.bool false) ∧ w = w' := by
  have c0 := h.c0
  clear h
  go_enter Tryd.func27, Tryd.ntmps27
  go_wp2_with fail
  go_ret
  exact ⟨rfl, rfl⟩
set_option maxRecDepth 100000 in
theorem cpu_any {n : Nat} {w : World} {p : Nat} {r : SR} {s : MS} (h : IsStore n w p r s) (c : Nat) (hc : c < s.inn.length) : Calls Tryd.prog 32 #[.pointer (some ⟨p, 0, none⟩), .int .i64 c] w fun e w' => e = .returned (.bool true) ∧ w = w' := by
  have c1 := h.c1
  have hb : decide (c < s.inn.length) = true := by simpa using hc
  clear h
  go_enter Tryd.func32, Tryd.ntmps32
  go_wp2_with fail
  go_ret
  exact ⟨rfl, rfl⟩
set_option maxRecDepth 100000 in
set_option maxHeartbeats 1000000 in
theorem lines_any {w : World} {b L a : Nat} {v : ByteArray} (h1 : w.cell? ⟨b, 1, none⟩ = some (.int .i64 ((16 * a : Nat) : Int))) (h4 : w.cell? ⟨b, 4, none⟩ = some (.string v)) (hL : v.size = L) (ha : 16 * a + L ≤ 4096) :
    Calls Tryd.prog 56 #[.pointer (some ⟨b, 0, none⟩)] w fun e w' => e = .returned (.tuple #[.int .i64 (a : Int), .int .i64 ((a + lns L : Nat) : Int)]) ∧ ∃ m, w' = w.drewN m := by
  have e1 : (16 * (a : Int)) / 16 = a := by omega
  have e2 : ((L : Int) + 16 - 1) / 16 = (lns L : Int) := by unfold lns; omega
  obtain ⟨l, hl⟩ : ∃ l, lns L = l := ⟨_, rfl⟩
  rw [hl] at e2 ⊢
  have hll : l ≤ 300 := by rw [← hl]; unfold lns; omega
  clear hl
  go_enter Tryd.func56, Tryd.ntmps56
  go_wp2_with fail
  go_quiet (fail)
  go_wp2_with fail
  go_ret2
  exact ⟨by simp, nq, rfl⟩
end Go.Proofs.YtnhajhejkecihaaDoor
/- Install: taken. -/
namespace Go.Proofs.YtnhajhejkecihaaDoor
open Go.RowKit Go.Lib
set_option linter.unusedVariables false

/-- 256 bools. -/
def tk (P : Nat → Bool) : List Value := (List.range 256).map fun k => .bool (P k)
theorem tk_length (P : Nat → Bool) : (tk P).length = 256 := by simp [tk]
theorem tk_at (P : Nat → Bool) {k : Nat} (hk : k < 256) : (tk P)[k]? = some (.bool (P k)) := by simp [tk, hk]
theorem tk_set (P : Nat → Bool) {k : Nat} : (tk P).set k (.bool true) = tk (fun i => decide (i = k) || P i) := by
  apply List.ext_getElem (by simp [tk])
  intro i h1 h2
  have hi : i < 256 := by simpa [tk] using h2
  by_cases hik : k = i
  · subst hik
    simp [tk]
  · rw [List.getElem_set_ne hik]
    have hne : ¬ i = k := fun e => hik e.symm
    simp [tk, hne]
theorem tk_one (P : Nat → Bool) : (tk P).toArray.all (·.oneCell') = true := by
  rw [Array.all_eq_true_iff_forall_mem]
  intro v hv
  simp only [tk, List.mem_toArray, List.mem_map] at hv
  obtain ⟨k, _, rfl⟩ := hv
  rfl
theorem wp_load_row {P : Program} {op : Oper} {a : Act} {w : World} {K : Act → World → Prop} {Q : Exit → Act → World → Prop} (ty : TypeId) (x : Operand) (ho : op.op = .load ty x) (g : Nat) (hx : a.eval x = .pointer (some ⟨g, 0, none⟩))
    (t : TypeId) (cs : Array Value) (fr : Nat × Nat) (d : TypeDesc) (hg : w.heap[g]? = some (.cells cs t fr)) (hu : P.underlying ty = some d) (hd : (match d with | .struct _ | .array _ _ => true | _ => false) = true) (hi : (P.info? ty).map (·.size) = some cs.size)
    (h : K (a.put op.dst (.agg cs)) w) : op.wp P a w K Q := by
  unfold Oper.wp execOp
  simp only [ho, hx, Instr.loadAt, Instr.sureAddr, Sem.run_bind, Sem.run_pure, Result.andThen_ok, run_loadVar_row w g t ty cs fr d hg hu hd hi]
  exact h
theorem wp_store_row {P : Program} {op : Oper} {a : Act} {w : World} {K : Act → World → Prop} {Q : Exit → Act → World → Prop} (ty : TypeId) (x y : Operand) (ho : op.op = .store ty x y) (g : Nat) (t : TypeId) (old cells : Array Value) (hx : a.eval x = .pointer (some ⟨g, 0, none⟩)) (hy : a.eval y = .agg cells)
    (hg : w.heap[g]? = some (.cells old t (0, 0))) (hi : (P.info? ty).map (·.size) = some cells.size) (hs : old.size = cells.size) (h1 : cells.all (·.oneCell') = true) (h : K (a.put op.dst undef) (w.setRow g cells)) : op.wp P a w K Q := by
  unfold Oper.wp execOp
  simp only [ho, hx, hy, Instr.storeAt, Instr.sureAddr, Sem.run_bind, Sem.run_pure, Result.andThen_ok, run_storeVar_row w g t ty old cells hg hi hs h1]
  exact h
theorem wpList_load_row {P : Program} {ops : Array Oper} {rest : List Oper} {op : Oper} {a : Act} {w : World} {Q : Exit → Act → World → Prop} (hgd : op.guard = none) (ty : TypeId) (x : Operand) (ho : op.op = .load ty x) (g : Nat) (hx : a.eval x = .pointer (some ⟨g, 0, none⟩))
    (t : TypeId) (cs : Array Value) (fr : Nat × Nat) (d : TypeDesc) (hg : w.heap[g]? = some (.cells cs t fr)) (hu : P.underlying ty = some d) (hd : (match d with | .struct _ | .array _ _ => true | _ => false) = true) (hi : (P.info? ty).map (·.size) = some cs.size)
    (h : wpList P ops Q rest (a.put op.dst (.agg cs)) w) : wpList P ops Q (op :: rest) a w :=
  wpList_plain hgd fun _ hK => wp_load_row ty x ho g hx t cs fr d hg hu hd hi (hK _ _ h)
theorem wpList_store_row {P : Program} {ops : Array Oper} {rest : List Oper} {op : Oper} {a : Act} {w : World} {Q : Exit → Act → World → Prop} (hgd : op.guard = none) (ty : TypeId) (x y : Operand) (ho : op.op = .store ty x y) (g : Nat) (t : TypeId) (old cells : Array Value) (hx : a.eval x = .pointer (some ⟨g, 0, none⟩)) (hy : a.eval y = .agg cells)
    (hg : w.heap[g]? = some (.cells old t (0, 0))) (hi : (P.info? ty).map (·.size) = some cells.size) (hs : old.size = cells.size) (h1 : cells.all (·.oneCell') = true) (h : wpList P ops Q rest (a.put op.dst undef) (w.setRow g cells)) : wpList P ops Q (op :: rest) a w :=
  wpList_plain hgd fun _ hK => wp_store_row ty x y ho g t old cells hx hy hg hi hs h1 (hK _ _ h)
theorem setRow_keep {w : World} {g : Nat} {cells : Array Value} : Keep (fun k => k = g) w (w.setRow g cells) := ⟨rfl, rfl, rfl, by simp, fun k _ hk => setRow_other w g k _ hk⟩
theorem tk_info (P : Nat → Bool) : (Tryd.prog.info? 78).map (·.size) = some (tk P).toArray.size := by
  rw [List.size_toArray, tk_length]
  kernel_rfl
/-- The two arrays while the lines are marked. -/
structure TV (w : World) (a b : Nat) (P : Nat → Bool) (W : World) : Prop where
  res : W.heap[a]? = some (.cells (tk fun _ => false).toArray 78 (0, 0))
  arr : W.heap[b]? = some (.cells (tk P).toArray 78 (0, 0))
  since : Since w.heap.size w W
  low : w.heap.size ≤ a ∧ w.heap.size ≤ b
  ne : a ≠ b
theorem TV.quiet {w W W1 : World} {a b : Nat} {P : Nat → Bool} (h : TV w a b P W) (hk : Keep (fun _ => False) W W1) : TV w a b P W1 :=
  ⟨(hk.block a (blk_lt h.res) id).trans h.res, (hk.block b (blk_lt h.arr) id).trans h.arr, Keep.trans h.since (Since.of hk), h.low, h.ne⟩
theorem TV.mark {w W : World} {a b k : Nat} {P Q : Nat → Bool} (h : TV w a b P W) (hQ : ∀ i, Q i = (decide (i = k) || P i)) : TV w a b Q (W.setCell ⟨b, k, none⟩ (.bool true)) := by
  have hk := keep_set (Keep.refl (fun i => i = b) W) k (.bool true)
  have hb := blk_set h.arr k (.bool true)
  rw [List.setIfInBounds_toArray, tk_set, ← show Q = _ from funext hQ] at hb
  exact ⟨(hk.block a (blk_lt h.res) h.ne).trans h.res, hb, Keep.trans h.since (Keep.mono hk (fun i e => by have := h.low.2; omega)), h.low, h.ne⟩
theorem takenB_take (l : List ME) (k i : Nat) (hk : k < l.length) : takenB (l.take (k + 1)) i = (takenB (l.take k) i || (l.getD k ME.dflt).on i) := by
  rw [List.take_add_one, List.getElem?_eq_getElem hk, List.getD_eq_getElem?_getD, List.getElem?_eq_getElem hk]
  exact taken_snoc _ _ _
theorem taken_ret {w wo : World} {R T : Nat} {P : Nat → Bool} (h : TV w R T P wo) (tmps : Array Value) (ht : tmps.getD 2 undef = .pointer (some ⟨R, 0, none⟩)) :
    bodyPost Tryd.prog Tryd.f29 (fun e w' => e = .returned (.agg (tk P).toArray) ∧ Since w.heap.size w w') Exit.ret { tmps := tmps, defers := [] } (wo.setRow R (tk P).toArray) := by
  have hfin := setRow_heap wo R _ (tk P).toArray _ _ h.res
  exact bodyPost_ret (results_cell_row rfl _ _ R _ _ _ _ ht hfin Tryd.underlying78 rfl (tk_info _)) rfl ⟨rfl, Keep.trans h.since (Keep.mono setRow_keep (fun i e => by have := h.low.1; omega))⟩
set_option maxRecDepth 100000 in
set_option maxHeartbeats 4000000 in
theorem taken_any {n : Nat} {w : World} {p : Nat} {r : SR} {s : MS} (h : IsStore n w p r s) : Calls Tryd.prog 29 #[.pointer (some ⟨p, 0, none⟩)] w fun e w' => e = .returned (.agg (tk (takenB s.all)).toArray) ∧ Since w.heap.size w w' := by
  have H := Lib.hid h
  have hN := h.inv.few
  clear h
  have hzv : ∀ W, (zeroValue 78).run Tryd.prog W = .ok (.agg (tk fun _ => false).toArray) W := fun W => by kernel_rfl
  obtain ⟨N, hNN⟩ : ∃ N, s.all.length = N := ⟨_, rfl⟩
  have HN := Lib.hid hNN
  go_enter Tryd.func29, Tryd.ntmps29
  go_upto_region 2 with (fail)
  have V0 : Hid (TV w w.heap.size (w.heap.size + 1) (fun _ => false) ((w.alloc (.cells (tk fun _ => false).toArray 78)).alloc (.cells (tk fun _ => false).toArray 78))) :=
    Lib.hid ⟨alloc_old' (heap_alloc_new _ _), heap_alloc_new2 _ _ _, Since.of (((Keep.refl (fun _ => False) w).alloc' _).alloc' _), by omega, by omega⟩
  obtain ⟨W0, hW⟩ : ∃ W0, ((w.alloc (.cells (tk fun _ => false).toArray 78)).alloc (.cells (tk fun _ => false).toArray 78)) = W0 := ⟨_, rfl⟩
  rw [hW] at V0
  rw [hW]
  obtain ⟨T, hT⟩ : ∃ T, w.heap.size + 1 = T := ⟨_, rfl⟩
  rw [hT] at V0
  rw [hT]
  obtain ⟨R, hR⟩ : ∃ R, w.heap.size = R := ⟨_, rfl⟩
  have V1 : Hid (TV w R T (fun _ => false) W0) := Lib.hid (hR ▸ V0.out)
  rw [hR]
  clear hW hT hR V0 hzv
  have c2 := (H.out.since V1.out.since).c2
  rw [hNN] at c2 hN
  clear hNN
  go_wp2_with fail
  go_loopw [14] (fun i wr => ∃ k : Nat, k ≤ N ∧ i = .int .i64 (k : Int) ∧ Hid (TV w R T (takenB (s.all.take k)) wr)) (fun i _ => N + 1 - (RowKit.intOf i).toNat)
  case atStart => exact ⟨0, Nat.zero_le _, rfl, Lib.hid (by have := V1.out; rwa [show takenB (s.all.take 0) = fun _ => false from rfl])⟩
  case round =>
    obtain ⟨k, hk, rfl, VV⟩ := hrel
    obtain ⟨wo, rfl⟩ : ∃ wo : World, wo = wr := ⟨_, rfl⟩
    clear V1 c2
    by_cases hlt : k < N
    · have hb : decide (k < N) = true := by simpa using hlt
      have hkN : k < s.all.length := by rw [HN.out]; exact hlt
      have HS := Lib.hid (H.out.since VV.out.since)
      obtain ⟨g, hg, hp⟩ := HS.out.ptr hkN
      obtain ⟨eb, heb⟩ : ∃ eb, r.es.getD k 0 = eb := ⟨_, rfl⟩
      obtain ⟨e, he⟩ : ∃ e, s.all.getD k ME.dflt = e := ⟨_, rfl⟩
      have e1 := HS.out.ecell hkN 1
      have e4 := HS.out.ecell hkN 4
      rw [heb, he] at e1 e4
      rw [heb] at hp
      rw [hg]
      have hmem : e ∈ s.all := he ▸ getD_mem hkN
      have hsz := H.out.inv.size e hmem
      have HE := Lib.hid (And.intro he hmem)
      obtain ⟨L, hL⟩ : ∃ L, e.bytes.length = L := ⟨_, rfl⟩
      have hst : e.stop = e.a + lns L := by unfold ME.stop; rw [hL]
      have hln := lines_any (w := wo) (b := eb) (L := L) (a := e.a) (v := sb e.bytes) (e1.trans rfl) (e4.trans rfl) (by rw [sb_size, hL]) (by have := hsz.2; rw [hst] at this; unfold lns at this; omega)
      have HL := Lib.hid hln
      clear heb he hln e1 e4 hg hmem
      have hst2 : e.a + lns L ≤ 256 := by rw [← hst]; exact hsz.2
      have HST := Lib.hid hst
      obtain ⟨z, hz⟩ : ∃ z, e.a + lns L = z := ⟨_, rfl⟩
      have haz : e.a ≤ z := by omega
      rw [hz] at HL hst2
      have HZ := Lib.hid hz
      clear hst hsz hz hL
      obtain ⟨a, ha⟩ : ∃ a, e.a = a := ⟨_, rfl⟩
      have HA := Lib.hid ha
      rw [ha] at HL haz
      clear ha
      go_wp2_with fail
      ((with_reducible refine HL.out.mono ?_); rintro ee w1 ⟨rfl, m, rfl⟩)
      have V2 := Lib.hid (VV.out.quiet (keep_drewN (fun _ => False) wo m))
      obtain ⟨w1, hw1⟩ : ∃ w1, wo.drewN m = w1 := ⟨_, rfl⟩
      rw [hw1] at V2
      rw [hw1]
      clear hw1 hp HL
      go_wp2_with fail
      go_loopw [8] (fun i wr => ∃ j : Nat, (a ≤ j ∧ j ≤ z) ∧ i = .int .i64 (j : Int) ∧ Hid (TV w R T (fun x => takenB (s.all.take k) x || (decide (a ≤ x) && decide (x < j))) wr)) (fun i _ => z + 1 - (RowKit.intOf i).toNat)
      case atStart =>
        refine ⟨a, by omega, rfl, ?_⟩
        have e : (fun x => takenB (s.all.take k) x || (decide (a ≤ x) && decide (x < a))) = takenB (s.all.take k) := by
          funext x
          by_cases h1 : a ≤ x
          · have h2 : decide (x < a) = false := by simpa using h1
            simp [h2]
          · simp [h1]
        rw [e]
        exact V2
      case round =>
        obtain ⟨j, hj, rfl, VI⟩ := hrel
        obtain ⟨wi, rfl⟩ : ∃ wi : World, wi = wr := ⟨_, rfl⟩
        clear V2
        by_cases hlj : j < z
        · have hb2 : decide (j < z) = true := by simpa using hlj
          have f0 := blk_free VI.out.arr j
          have q0 := (blk_cell VI.out.arr j).trans ((List.getElem?_toArray).trans (tk_at _ (show j < 256 by omega)))
          have hj256 : (j : Int) < 256 := by omega
          have VM := Lib.hid (VI.out.mark (k := j) (Q := fun x => takenB (s.all.take k) x || (decide (a ≤ x) && decide (x < j + 1))) (fun x => by
            by_cases hx : x = j
            · subst hx
              simp [hj.1]
            · have e1 : decide (x < j + 1) = decide (x < j) := by rw [decide_eq_decide]; omega
              simp [hx, e1]))
          go_wp2_with fail
          exact ⟨⟨j + 1, by omega, by go_num, VM⟩, by simp [RowKit.intOf]; omega⟩
        · have hb2 : decide (j < z) = false := by simpa using hlj
          obtain rfl : j = z := by omega
          have VK : Hid (TV w R T (takenB (s.all.take (k + 1))) wi) := by
            have := VI.out
            have e : (fun x => takenB (s.all.take k) x || (decide (a ≤ x) && decide (x < j))) = takenB (s.all.take (k + 1)) := by
              funext x
              rw [takenB_take _ _ _ hkN, HE.out.1]
              unfold ME.on
              rw [HST.out, HZ.out, HA.out]
            rw [e] at this
            exact Lib.hid this
          go_wp2_with fail
          exact ⟨⟨k + 1, by omega, by go_num, VK⟩, by simp [RowKit.intOf]; omega⟩
    · have hb : decide (k < N) = false := by simpa using hlt
      obtain rfl : k = N := by omega
      have VE : Hid (TV w R T (takenB s.all) wo) := by
        have := VV.out
        rw [List.take_of_length_le (by rw [HN.out]; omega)] at this
        exact Lib.hid this
      go_wp2_with (first | (refine wpList_load_row rfl 78 (.tmp 3) rfl T rfl 78 _ (0, 0) _ VE.out.arr Tryd.underlying78 rfl (tk_info _) ?_) | (refine wpList_store_row rfl 78 (.tmp 2) (.tmp 32) rfl R 78 _ (tk (takenB s.all)).toArray rfl rfl VE.out.res (tk_info _) (by rw [List.size_toArray, List.size_toArray, tk_length, tk_length]) (tk_one _) ?_))
      exact taken_ret VE.out _ rfl
end Go.Proofs.YtnhajhejkecihaaDoor
/- Install: Free, owe, find, Leave. -/
namespace Go.Proofs.YtnhajhejkecihaaDoor
open Go.RowKit Go.Lib
set_option linter.unusedVariables false

/-- How many of the first k lines are free. -/
def frees (P : Nat → Bool) (k : Nat) : Nat := (List.range k).countP fun i => !P i
theorem frees_step (P : Nat → Bool) (k : Nat) : frees P (k + 1) = frees P k + if P k then 0 else 1 := by
  unfold frees
  rw [List.range_succ, List.countP_append]
  cases h : P k <;> simp [h]
theorem frees_le (P : Nat → Bool) (k : Nat) : frees P k ≤ k := by
  have := List.countP_le_length (p := fun i => !P i) (l := List.range k)
  simpa [frees] using this
theorem run_index_tk (P : Nat → Bool) {k : Nat} (hk : k < 256) (W : World) : (Instr.index 78 (.agg (tk P).toArray) (.int .i64 (k : Int))).run Tryd.prog W = .ok (.bool (P k)) W := by
  have h4 : (sizeOf 4).run Tryd.prog W = .ok 1 W := by kernel_rfl
  have h5 : k < (tk P).length := by rw [tk_length]; exact hk
  have h6 : (tk P)[k] = .bool (P k) := by
    have := tk_at P hk
    rw [List.getElem?_eq_getElem h5] at this
    exact Option.some.inj this
  simp [Instr.index, run_underlying Tryd.underlying78, asIntOf, h4, go_sem, part, Sem.run_bind, h5, h6]
  intro h
  omega
set_option maxRecDepth 100000 in
set_option maxHeartbeats 4000000 in
theorem free_any {n : Nat} {w : World} {p : Nat} {r : SR} {s : MS} (h : IsStore n w p r s) : Calls Tryd.prog 13 #[.pointer (some ⟨p, 0, none⟩)] w fun e w' => e = .returned (.int .i64 ((16 * frees (takenB s.all) 256 : Nat) : Int)) ∧ Since w.heap.size w w' := by
  have HC := Lib.hid (closed_any h)
  have HT := Lib.hid (taken_any h)
  clear h
  obtain ⟨P, hP⟩ : ∃ P, takenB s.all = P := ⟨_, rfl⟩
  rw [hP] at HT
  rw [hP]
  clear hP
  go_enter Tryd.func13, Tryd.ntmps13
  go_wp2_with fail
  ((with_reducible refine HC.out.mono ?_); rintro e w' ⟨rfl, rfl⟩)
  clear HC
  go_wp2_with fail
  ((with_reducible refine HT.out.mono ?_); rintro e w1 ⟨rfl, hk1⟩)
  have K1 := Lib.hid hk1
  clear hk1 HT
  obtain ⟨T, hT⟩ : ∃ T, tk P = T := ⟨_, rfl⟩
  have HTT := Lib.hid hT
  rw [hT]
  clear hT
  go_wp2_with fail
  go_loopw [3, 10] (fun m i wr => ∃ k : Nat, k ≤ 256 ∧ i = .int .i64 (k : Int) ∧ ∃ f : Nat, f ≤ k ∧ m = .int .i64 (((16 * f : Nat)) : Int) ∧ Hid (frees P k = f) ∧ Hid (Since w.heap.size w wr)) (fun _ i _ => 256 + 1 - (RowKit.intOf i).toNat)
  case atStart => exact ⟨0, by omega, rfl, 0, by omega, rfl, Lib.hid rfl, K1⟩
  case round =>
    obtain ⟨k, hk, rfl, f, hf, rfl, HF, KK⟩ := hrel
    obtain ⟨wo, rfl⟩ : ∃ wo : World, wo = wr := ⟨_, rfl⟩
    clear K1
    by_cases hlt : k < 256
    · have hb : decide ((k : Int) < 256) = true := by simp; omega
      have hki : (k : Int) < 256 := by omega
      have hix : ∀ W, (Instr.index 78 (.agg T.toArray) (.int .i64 (k : Int))).run Tryd.prog W = .ok (.bool (P k)) W := fun W => by rw [← HTT.out]; exact run_index_tk P hlt W
      have hst := frees_step P k
      cases hPk : P k with
      | true =>
        rw [hPk, HF.out] at hst
        rw [hPk] at hix
        have HS := Lib.hid (show frees P (k + 1) = f from hst)
        clear hst hPk
        go_wp2_with fail
        exact ⟨⟨k + 1, by omega, by go_num, f, by omega, rfl, HS, KK⟩, by simp [RowKit.intOf]; omega⟩
      | false =>
        rw [hPk, HF.out] at hst
        rw [hPk] at hix
        have HS := Lib.hid (show frees P (k + 1) = f + 1 from hst)
        clear hst hPk
        go_wp2_with fail
        exact ⟨⟨k + 1, by omega, by go_num, f + 1, by omega, by go_num, HS, KK⟩, by simp [RowKit.intOf]; omega⟩
    · obtain rfl : k = 256 := by omega
      have HF2 := HF.out
      clear HF
      subst HF2
      go_wp2_with fail
      go_ret
      exact ⟨rfl, KK.out⟩
end Go.Proofs.YtnhajhejkecihaaDoor
/- Install: find, owe. -/
namespace Go.Proofs.YtnhajhejkecihaaDoor
open Go.RowKit Go.Lib
set_option linter.unusedVariables false
set_option linter.unusedSimpArgs false

def hit (id : Int) (e : ME) : Bool := (e.id : Int) == id && !e.dropped
theorem find_none {s : MS} {id : Int} (h : ∀ j, j < s.all.length → hit id (s.all.getD j ME.dflt) = false) : s.find id = none := by
  unfold MS.find
  rw [List.findIdx?_eq_none_iff]
  intro x hx
  obtain ⟨i, hi, rfl⟩ := List.getElem_of_mem hx
  have := h i hi
  rwa [List.getD_eq_getElem?_getD, List.getElem?_eq_getElem hi] at this
theorem find_some {s : MS} {id : Int} {k : Nat} (hk : k < s.all.length) (h : ∀ j, j < k → hit id (s.all.getD j ME.dflt) = false) (hh : hit id (s.all.getD k ME.dflt) = true) : s.find id = some k := by
  unfold MS.find
  rw [List.findIdx?_eq_some_iff_getElem]
  refine ⟨hk, ?_, fun j hj => ?_⟩
  · rwa [List.getD_eq_getElem?_getD, List.getElem?_eq_getElem hk] at hh
  · have := h j hj
    rw [List.getD_eq_getElem?_getD, List.getElem?_eq_getElem (by omega)] at this
    unfold hit at this
    simpa using this
def found (r : SR) : Option Nat → Value
  | none => .pointer none
  | some i => .pointer (some ⟨r.es.getD i 0, 0, none⟩)
set_option maxRecDepth 100000 in
set_option maxHeartbeats 4000000 in
theorem find_any {n : Nat} {w : World} {p : Nat} {r : SR} {s : MS} (h : IsStore n w p r s) (id : Int) : Calls Tryd.prog 31 #[.pointer (some ⟨p, 0, none⟩), .int .i64 id] w fun e w' => e = .returned (found r (s.find id)) ∧ w = w' := by
  have H := Lib.hid h
  have c2 := h.c2
  have hN := h.inv.few
  clear h
  obtain ⟨N, hNN⟩ : ∃ N, s.all.length = N := ⟨_, rfl⟩
  have HN := Lib.hid hNN
  rw [hNN] at c2 hN
  clear hNN
  go_enter Tryd.func31, Tryd.ntmps31
  go_wp2_with fail
  go_loop [12] (fun i => ∃ k : Nat, k ≤ N ∧ i = .int .i64 (k : Int) ∧ Hid (∀ j, j < k → hit id (s.all.getD j ME.dflt) = false)) (fun i => N + 1 - (RowKit.intOf i).toNat)
  case atStart => exact ⟨0, Nat.zero_le _, rfl, Lib.hid (fun j hj => absurd hj (by omega))⟩
  case round =>
    obtain ⟨k, hk, rfl, HH⟩ := hrel
    by_cases hlt : k < N
    · have hb : decide (k < N) = true := by simpa using hlt
      have hkN : k < s.all.length := by rw [HN.out]; exact hlt
      obtain ⟨g, hg, hp⟩ := H.out.ptr hkN
      obtain ⟨eb, heb⟩ : ∃ eb, r.es.getD k 0 = eb := ⟨_, rfl⟩
      obtain ⟨e, he⟩ : ∃ e, s.all.getD k ME.dflt = e := ⟨_, rfl⟩
      have e0 : w.cell? ⟨eb, 0, none⟩ = some (.int .i64 e.id) := by rw [← heb, ← he]; exact H.out.ecell hkN 0
      have e11 : w.cell? ⟨eb, 11, none⟩ = some (.bool e.dropped) := by rw [← heb, ← he]; exact H.out.ecell hkN 11
      rw [heb] at hp
      rw [hg]
      have HE := Lib.hid (And.intro he (And.intro heb hkN))
      clear heb he hg hkN
      by_cases hid : (e.id : Int) = id
      · have h1 : ((e.id : Int) == id) = true := by simpa using hid
        cases hd : e.dropped with
        | true =>
          rw [hd] at e11
          have HN2 := Lib.hid (show ∀ j, j < k + 1 → hit id (s.all.getD j ME.dflt) = false from fun j hj => by
            by_cases hjk : j < k
            · exact HH.out j hjk
            · obtain rfl : j = k := by omega
              rw [HE.out.1]; unfold hit; rw [hd]; simp)
          clear hd hid
          go_wp2_with fail
          exact ⟨⟨k + 1, by omega, by go_num, HN2⟩, by simp [RowKit.intOf]; omega⟩
        | false =>
          rw [hd] at e11
          have HN2 := Lib.hid (find_some HE.out.2.2 HH.out (by rw [HE.out.1]; unfold hit; rw [hd, h1]; rfl))
          clear hd hid
          go_wp2_with fail
          go_ret
          exact ⟨by rw [HN2.out]; show _ = Ending.returned (Value.pointer (some ⟨r.es.getD k 0, 0, none⟩)); rw [HE.out.2.1]; rfl, rfl⟩
      · have h1 : ((e.id : Int) == id) = false := by simpa using hid
        have HN2 := Lib.hid (show ∀ j, j < k + 1 → hit id (s.all.getD j ME.dflt) = false from fun j hj => by
          by_cases hjk : j < k
          · exact HH.out j hjk
          · obtain rfl : j = k := by omega
            rw [HE.out.1]; unfold hit; rw [h1]; rfl)
        clear hid
        go_wp2_with fail
        exact ⟨⟨k + 1, by omega, by go_num, HN2⟩, by simp [RowKit.intOf]; omega⟩
    · have hb : decide (k < N) = false := by simpa using hlt
      obtain rfl : k = N := by omega
      have HN2 := Lib.hid (find_none (fun j hj => HH.out j (by rw [← HN.out]; exact hj)))
      go_wp2_with fail
      go_ret
      exact ⟨by rw [HN2.out]; rfl, rfl⟩

def upTo (k : Nat) : Int → Bool := fun i => decide (0 ≤ i) && decide (i < (k : Int))
theorem upTo_put (k : Nat) : (fun j => j == (k : Int) || upTo k j) = upTo (k + 1) := by
  funext j
  rw [Bool.eq_iff_iff]
  simp [upTo]
  omega
theorem upTo_owed (N : Nat) : upTo N = owedS (List.replicate N true) := by
  funext j
  unfold upTo owedS
  by_cases h0 : 0 ≤ j
  · obtain ⟨q, rfl⟩ := Int.eq_ofNat_of_zero_le h0
    by_cases hq : q < N
    · simp [List.getD_eq_getElem?_getD, hq]
    · simp [List.getD_eq_getElem?_getD, List.getElem?_replicate, hq]
  · simp [h0]
set_option maxRecDepth 100000 in
set_option maxHeartbeats 4000000 in
theorem owe_low {w : World} {p eb ib ic N : Nat} {cs : Array Value} (h1 : w.cell? ⟨p, 1, none⟩ = some (.slice (some ⟨ib, 0, none⟩) N ic)) (he : w.heap[eb]? = some (.cells cs 73 (0, 0))) (hcs : cs.size = 13) (hpe : p ≠ eb) (hN : N ≤ 4) :
    Calls Tryd.prog 36 #[.pointer (some ⟨p, 0, none⟩), .pointer (some ⟨eb, 0, none⟩)] w fun e w' => e = .returned (.tuple #[]) ∧ ∃ o, w.heap.size ≤ o ∧ w'.heap[eb]? = some (.cells (cs.setIfInBounds 12 (.map (some o))) 73 (0, 0)) ∧ FB Tryd.prog 3 4 w' o (owedS (List.replicate N true)) N ∧ Keep (fun k => k = eb) w w' := by
  have hmm := @run_makeMap Tryd.prog
  have hel := blk_lt he
  obtain ⟨u, hu⟩ : ∃ u, cs[12]? = some u := ⟨_, Array.getElem?_eq_getElem (by omega)⟩
  have e12 : w.cell? ⟨eb, 12, none⟩ = some u := (blk_cell he 12).trans hu
  have f12 := blk_free he 12
  have k0 := (Keep.refl (fun _ => False) w).alloc' (.map #[] 0)
  have e12' : (w.alloc (.map #[] 0)).cell? ⟨eb, 12, none⟩ = some u := cell_kept k0 e12 id
  have f12' : (w.alloc (.map #[] 0)).frozen? ⟨eb, 12, none⟩ = false := blk_free ((k0.block eb hel id).trans he) 12
  have ks := keep_set (Keep.refl (fun i => i = eb) w) 12 (.map (some w.heap.size))
  have hb0 := blk_set he 12 (.map (some w.heap.size))
  have hsz : (w.setCell ⟨eb, 12, none⟩ (.map (some w.heap.size))).heap.size = w.heap.size := by simp [World.setCell]
  have hF := FB.made (P := Tryd.prog) (k := 3) (e := 4) (w.setCell ⟨eb, 12, none⟩ (.map (some w.heap.size)))
  rw [hsz] at hF
  have ka := (Keep.refl (fun _ => False) (w.setCell ⟨eb, 12, none⟩ (.map (some w.heap.size)))).alloc' (.map #[] 0)
  have c1 := cell_kept ka (cell_kept ks h1 hpe) id
  have V0 := Lib.hid (And.intro ((ka.block eb (blk_lt hb0) id).trans hb0) (And.intro hF (Keep.trans ks (Keep.mono ka (F' := fun i => i = eb) (fun _ => False.elim)))))
  clear hb0 hF ks ka k0 hu hsz
  go_enter Tryd.func36, Tryd.ntmps36
  go_upto_region 1 with (fail)
  obtain ⟨W0, hW⟩ : ∃ W0, (w.setCell ⟨eb, 12, none⟩ (.map (some w.heap.size))).alloc (.map #[] 0) = W0 := ⟨_, rfl⟩
  rw [hW] at V0 c1
  rw [hW]
  obtain ⟨o, ho⟩ : ∃ o, w.heap.size = o := ⟨_, rfl⟩
  rw [ho] at V0
  have HO := Lib.hid ho
  clear hW ho e12 f12 e12' f12' h1 hmm
  go_wp2_with fail
  go_loopw [14] (fun i wr => ∃ k : Nat, k ≤ N ∧ i = .int .i64 (k : Int) ∧ Hid (wr.heap[eb]? = some (.cells (cs.setIfInBounds 12 (.map (some o))) 73 (0, 0)) ∧ FB Tryd.prog 3 4 wr o (upTo k) k ∧ Keep (fun i => i = eb) w wr)) (fun i _ => N + 1 - (RowKit.intOf i).toNat)
  case atStart =>
    refine ⟨0, Nat.zero_le _, rfl, Lib.hid ⟨V0.out.1, ?_, V0.out.2.2⟩⟩
    have e : upTo 0 = fun _ => false := by
      funext i
      rw [Bool.eq_iff_iff]
      simp [upTo]
    rw [e]
    exact V0.out.2.1
  case round =>
    obtain ⟨k, hk, rfl, VV⟩ := hrel
    obtain ⟨wo, rfl⟩ : ∃ wo : World, wo = wr := ⟨_, rfl⟩
    clear V0 c1
    have e12 : wo.cell? ⟨eb, 12, none⟩ = some (.map (some o)) := by
      rw [blk_cell VV.out.1]
      simp [hcs]
    by_cases hlt : k < N
    · have hb : decide (k < N) = true := by simpa using hlt
      obtain ⟨wd, hput, hfd, hkd⟩ := VV.out.2.1.put Tryd.underlying3 Tryd.underlying71 Tryd.underlying4 (by unfold maxLen; omega) (i := (k : Int)) (wf64 (by omega))
      have hu0 : upTo k (k : Int) = false := by simp [upTo]
      rw [upTo_put, hu0] at hfd
      have hoe : o ≠ eb := by have := HO.out; omega
      have VN := Lib.hid (And.intro ((hkd.block eb (blk_lt VV.out.1) (fun e => hoe e.symm)).trans VV.out.1) (And.intro hfd (VV.out.2.2.then hkd (fun i e => .inr (by have := HO.out; omega)))))
      clear hfd hkd hu0
      go_wp2_with fail
      exact ⟨⟨k + 1, by omega, by go_num, VN⟩, by simp [RowKit.intOf]; omega⟩
    · have hb : decide (k < N) = false := by simpa using hlt
      obtain rfl : k = N := by omega
      go_wp2_with fail
      refine bodyPost_end (results_none rfl _ _ _) rfl ?_
      exact ⟨rfl, o, by have := HO.out; omega, VV.out.1, by rw [← upTo_owed]; exact VV.out.2.1, VV.out.2.2⟩
end Go.Proofs.YtnhajhejkecihaaDoor
/- Install: how a store is turned: its board, its processors, an entry. -/
namespace Go.Proofs.YtnhajhejkecihaaDoor
open Go.RowKit Go.Lib
set_option linter.unusedVariables false
set_option linter.unnecessarySimpa false
set_option linter.unusedSimpArgs false

/-- A block of cells of type t: what else it is not. -/
theorem cells_ne {w : World} {a b : Nat} {cs ds : Array Value} {t u : TypeId} {fr gr : Nat × Nat} (h1 : w.heap[a]? = some (.cells cs t fr)) (h2 : w.heap[b]? = some (.cells ds u gr)) (h : t ≠ u) : a ≠ b := fun e => by
  subst e
  rw [h1] at h2
  injection h2 with h2
  injection h2 with _ h3
  exact h h3
theorem map_ne {w : World} {a b : Nat} {cs : Array Value} {t : TypeId} {fr : Nat × Nat} {es : Array MapEntry} {ck : Nat} (h1 : w.heap[a]? = some (.cells cs t fr)) (h2 : w.heap[b]? = some (.map es ck)) : a ≠ b := fun e => by
  subst e
  rw [h1] at h2
  cases h2
section
variable {n : Nat} {w w' : World} {p : Nat} {r : SR} {s : MS}
theorem IsStore.os_map (h : IsStore n w p r s) {k : Nat} (hk : k ∈ r.os) : ∃ es ck, w.heap[k]? = some (.map es ck) := by
  obtain ⟨i, hi, rfl⟩ := List.getElem_of_mem hk
  have := fb_map (h.ents i (by rw [← h.oslen.1]; exact hi)).2
  rwa [List.getD_eq_getElem?_getD, List.getElem?_eq_getElem hi] at this
theorem IsStore.es_cells (h : IsStore n w p r s) {k : Nat} (hk : k ∈ r.es) : ∃ cs, w.heap[k]? = some (.cells cs 73 (0, 0)) := by
  obtain ⟨i, hi, rfl⟩ := List.getElem_of_mem hk
  have := (h.ents i (by rw [← h.eslen]; exact hi)).1
  rw [List.getD_eq_getElem?_getD, List.getElem?_eq_getElem hi] at this
  exact ⟨_, this⟩
theorem IsStore.row_cells (h : IsStore n w p r s) {k : Nat} (hk : (Value.slice r.A s.all.length r.ac).ownBlock = some k) : ∃ cs, w.heap[k]? = some (.cells cs 70 (0, 0)) := own_type h.row hk
theorem IsStore.inn_cells (h : IsStore n w p r s) : ∃ cs, w.heap[r.ib]? = some (.cells cs 3 (0, 0)) := own_type h.inn rfl
/-- A block of cells that is none of the board's. -/
theorem board_far {b : Nat} {br : BR} {M : Bytes} {fs : List Cache} (h : IsBoard w b br M fs) {k : Nat} {cs : Array Value} {t : TypeId} {fr : Nat × Nat} (hk : w.heap[k]? = some (.cells cs t fr)) (h1 : t ≠ 109) (h2 : t ≠ 5) (h3 : t ≠ 110) : ∀ q, br.foot b q → q ≠ k := by
  rintro q (rfl | rfl | rfl | hq)
  · exact cells_ne h.hdr hk (Ne.symm h1)
  · obtain ⟨c, hc⟩ := own_type h.mem (k := br.mb) rfl
    exact cells_ne hc hk (Ne.symm h2)
  · obtain ⟨c, hc⟩ := own_type h.caches (k := br.cb) rfl
    exact cells_ne hc hk (Ne.symm h3)
  · obtain ⟨es, ck, hm⟩ := h.mem_map hq
    exact fun e => map_ne hk hm e.symm
/-- The board is turned. -/
theorem IsStore.turnBoard (h : IsStore n w p r s) {M : Bytes} {fs : List Cache} (hb : IsBoard w' r.bb r.br M fs) (hc : Coh s M fs) {k0 : Nat} (hk : Keep (fun k => k = k0) w w') (h0 : k0 = r.br.mb ∨ k0 ∈ r.br.ms) : IsStore n w' p r s := by
  obtain ⟨M0, fs0, hb0, _⟩ := h.board
  have kind : (∃ cs, w.heap[k0]? = some (.cells cs 5 (0, 0))) ∨ (k0 ∈ r.br.ms ∧ ∃ es ck, w.heap[k0]? = some (.map es ck)) := by
    rcases h0 with rfl | h0
    · exact .inl (own_type hb0.mem rfl)
    · exact .inr ⟨h0, hb0.mem_map h0⟩
  have far : ∀ {k : Nat} {cs : Array Value} {t : TypeId}, w.heap[k]? = some (.cells cs t (0, 0)) → t ≠ 5 → k ≠ k0 := fun hc ht => by
    rcases kind with ⟨c, h1⟩ | ⟨_, es, ck, h1⟩
    · exact cells_ne hc h1 ht
    · exact map_ne hc h1
  have farm : ∀ k ∈ r.os, k ≠ k0 := fun k hk => by
    rcases kind with ⟨c, h1⟩ | ⟨h1, _⟩
    · obtain ⟨es, ck, hm⟩ := h.os_map hk
      exact fun e => map_ne h1 hm e.symm
    · have := List.nodup_append.1 h.maps
      exact fun e => this.2.2 _ h1 _ hk e.symm
  refine ⟨(hk.block p (blk_lt h.hdr) (far h.hdr (by decide))).trans h.hdr, ⟨M, fs, hb, hc⟩, hk.own h.inn (fun k e => ?_), hk.own h.row (fun k e => ?_), fun i hi => ?_, h.esN, h.maps, h.oslen, h.low, h.inv⟩
  · obtain ⟨c, hcc⟩ := own_type h.inn e
    exact far hcc (by decide)
  · obtain ⟨c, hcc⟩ := own_type h.row e
    exact far hcc (by decide)
  · exact ⟨(hk.block _ (blk_lt (h.ents i hi).1) (far (h.ents i hi).1 (by decide))).trans (h.ents i hi).1, (h.ents i hi).2.keep hk (farm _ (getD_mem (by rw [h.oslen.1]; exact hi)))⟩
/-- The modules that processors are in are turned. -/
theorem IsStore.turnInn (h : IsStore n w p r s) {c : Nat} (hc : c < s.inn.length) (v : Int) (hv : -1 ≤ v ∧ v < s.next) : IsStore n (w.setCell ⟨r.ib, c, none⟩ (.int .i64 v)) p r (s.left c v) := by
  have hk : Keep (fun k => k = r.ib) w (w.setCell ⟨r.ib, c, none⟩ (.int .i64 v)) := keep_set (Keep.refl (fun i => i = r.ib) w) c (.int .i64 v)
  obtain ⟨ics, hic⟩ := h.inn_cells
  obtain ⟨M, fs, hb, hco⟩ := h.board
  have far : ∀ {k : Nat} {cs : Array Value} {t : TypeId}, w.heap[k]? = some (.cells cs t (0, 0)) → t ≠ 3 → k ≠ r.ib := fun hcc ht => cells_ne hcc hic ht
  have hl : (s.left c v).inn.length = s.inn.length := by simp [MS.left]
  refine ⟨by rw [hl]; exact (hk.block p (blk_lt h.hdr) (far h.hdr (by decide))).trans h.hdr, ⟨M, fs, hb.keep hk (board_far hb hic (by decide) (by decide) (by decide)), ⟨by rw [hl]; exact hco.len, hco.mem, hco.cache⟩⟩, ?_, hk.own h.row (fun k e => ?_), fun i hi => ?_, h.esN, h.maps, h.oslen, h.low, ?_⟩
  · rw [hl]
    obtain ⟨hl0, ⟨h1, _⟩ | ⟨g, cap, cur, h1, h2, h3, h4, h5, h6, h7⟩⟩ := h.inn
    · cases h1
    · injection h1 with e1 _ e3
      injection e1 with e1
      injection e1 with e1
      subst e1 e3
      refine ⟨by simpa [ints, MS.left] using hl0, .inr ⟨r.ib, r.ic, cur.setIfInBounds c (.int .i64 v), rfl, h2, blk_set h3 c _, h4, h5, by rw [Array.size_setIfInBounds]; exact h6, ?_⟩⟩
      rw [Array.toList_setIfInBounds, List.take_set, h7]
      simp [ints, List.map_set, MS.left]
  · obtain ⟨cc, hcc⟩ := own_type h.row e
    exact far hcc (by decide)
  · refine ⟨(hk.block _ (blk_lt (h.ents i hi).1) (far (h.ents i hi).1 (by decide))).trans (h.ents i hi).1, (h.ents i hi).2.keep hk (fun e => ?_)⟩
    obtain ⟨es, ck, hm⟩ := h.os_map (getD_mem (by rw [h.oslen.1]; exact hi))
    exact map_ne hic hm e.symm
  · have hi := h.inv
    refine ⟨by rw [hl]; exact hi.cpus, hi.size, fun e he => by rw [hl]; exact hi.owed e he, hi.ids, hi.apart, hi.few, hi.next, fun u hu => ?_⟩
    rcases List.mem_or_eq_of_mem_set hu with hu | rfl
    · exact hi.inn u hu
    · exact hv
theorem IsStore.innc (h : IsStore n w p r s) {c : Nat} (hc : c < s.inn.length) : w.cell? ⟨r.ib, c, none⟩ = some (.int .i64 (s.inn.getD c 0)) ∧ w.frozen? ⟨r.ib, c, none⟩ = false := by
  rcases h.inn.2 with ⟨h1, _⟩ | ⟨g, cap, cur, h1, _, h3, h4, _, h6, h7⟩
  · cases h1
  · injection h1 with e1 _ e3
    injection e1 with e1
    injection e1 with e1
    subst e1
    have h8 : (cur.toList.take (s.inn.length * 1))[c]? = (ints s.inn)[c]? := by rw [h7]
    rw [List.getElem?_take_of_lt (by omega)] at h8
    refine ⟨?_, blk_free h3 c⟩
    rw [blk_cell h3, List.getD_eq_getElem?_getD, List.getElem?_eq_getElem hc]
    simp only [ints, List.getElem?_map, List.getElem?_eq_getElem hc] at h8
    simpa using h8
end
set_option maxRecDepth 100000 in
set_option maxHeartbeats 2000000 in
theorem leave_any {n : Nat} {w : World} {p : Nat} {r : SR} {s : MS} (h : IsStore n w p r s) {c : Nat} (hc : c < s.inn.length) (hin : 0 ≤ s.inn.getD c 0) : Calls Tryd.prog 17 #[.pointer (some ⟨p, 0, none⟩), .int .i64 c] w fun e w' => e = .returned (.int .i64 0) ∧ IsStore n w' p r (s.left c (-1)) ∧ Keep (r.foot p) w w' := by
  have HC := Lib.hid (closed_any h)
  have HP := Lib.hid (cpu_any h c hc)
  have c1 := h.c1
  obtain ⟨q0, q1⟩ := h.innc hc
  have hlow := h.low r.ib (.inr (.inr (.inl rfl)))
  have HT := Lib.hid (And.intro (h.turnInn hc (-1) (by omega)) (Keep.mono (keep_set (Keep.refl (fun i => i = r.ib) w) c (.int .i64 (-1))) (F' := r.foot p) (fun i e => .inr (.inr (.inl e)))))
  obtain ⟨v, hv⟩ : ∃ v, s.inn.getD c 0 = v := ⟨_, rfl⟩
  rw [hv] at q0 hin
  have hb : decide (c < s.inn.length) = true := by simpa using hc
  have hneg : decide (v < 0) = false := by simp; omega
  clear h hv
  go_enter Tryd.func17, Tryd.ntmps17
  go_wp2_with fail
  ((with_reducible refine HC.out.mono ?_); rintro e w' ⟨rfl, rfl⟩)
  go_wp2_with fail
  ((with_reducible refine HP.out.mono ?_); rintro e w' ⟨rfl, rfl⟩)
  clear HC HP
  go_wp2_with fail
  go_ret
  exact ⟨rfl, HT.out.1, HT.out.2⟩
end Go.Proofs.YtnhajhejkecihaaDoor
