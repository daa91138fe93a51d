/- Small laws on slices that read as lists, and on append, that the walks of this seat share. -/
import Derived.WalkKit
import Derived.Lib.Hide
import Derived.Deep.QuietTactic
import Derived.BigQuiet
import Derived.WalkSpells
import Derived.Laws.AppendOwnNone
import Derived.Maps.AppendAt
import Derived.Lib.ConvBytes
import Derived.Laws.CopyOwn
import Derived.Lib.AppendZeros
import Derived.Lib.AppendZerosOnto
import Derived.Deep.OwnRows
import Derived.Deep.AppendLies
import Derived.Test.YtnbpgipbfejllaaDoorRows
import Derived.Deep.RegionHeld3
import Derived.Laws.OwnMore
import Derived.Deep.Cut
import Derived.StillTailTactics
namespace Go.Proofs.YtnbpgipbfejllaaDoor
open Go.RowKit

/-- A slice's elements, with address A and n elements of one cell each, are xs. -/
def CellsAt (w : World) (A : Option Addr) (n : Nat) (xs : List Value) : Prop :=
  xs.length = n ∧ n ≤ 9223372036854775807 ∧ (0 < n → ∃ b off, A = some ⟨b, off, none⟩ ∧ b < w.heap.size ∧ ∀ j, j < n → w.cell? ⟨b, off + j, none⟩ = xs[j]?)

theorem CellsAt.len {w : World} {A : Option Addr} {n : Nat} {xs : List Value} (h : CellsAt w A n xs) : xs.length = n := h.1
theorem CellsAt.bound {w : World} {A : Option Addr} {n : Nat} {xs : List Value} (h : CellsAt w A n xs) : n ≤ 9223372036854775807 := h.2.1
theorem CellsAt.nil (w : World) (A : Option Addr) : CellsAt w A 0 [] := ⟨rfl, by omega, fun h => absurd h (by omega)⟩
theorem CellsAt.below {w w' : World} {A : Option Addr} {n : Nat} {xs : List Value} (h : CellsAt w A n xs) (hb : Below w.heap.size w w') : CellsAt w' A n xs :=
  ⟨h.1, h.2.1, fun h0 => let ⟨b, off, e, hl, hc⟩ := h.2.2 h0; ⟨b, off, e, Nat.lt_of_lt_of_le hl hb.size, fun j hj => (hb.cell (p := ⟨b, off + j, none⟩) hl).trans (hc j hj)⟩⟩
theorem CellsAt.drewN {w : World} {A : Option Addr} {n : Nat} {xs : List Value} (h : CellsAt w A n xs) (k : Nat) : CellsAt (w.drewN k) A n xs := h
theorem CellsAt.alloc {w : World} {A : Option Addr} {n : Nat} {xs : List Value} (h : CellsAt w A n xs) (o : Obj) : CellsAt (w.alloc o) A n xs :=
  h.below ((Below.refl _ _).alloc (Nat.le_refl _) _)
theorem CellsAt.at_ {w : World} {A : Option Addr} {n : Nat} {xs : List Value} (h : CellsAt w A n xs) (k : Nat) (hk : k < n) :
    ∃ b off, A = some ⟨b, off, none⟩ ∧ w.cell? ⟨b, off + k, none⟩ = some (xs.getD k undef) := by
  obtain ⟨b, off, e, _, hc⟩ := h.2.2 (by omega)
  refine ⟨b, off, e, ?_⟩
  rw [hc k hk, List.getD_eq_getElem?_getD, List.getElem?_eq_getElem (by rw [h.1]; exact hk)]
  rfl
/-- The first m of n elements. -/
theorem CellsAt.take {w : World} {A : Option Addr} {n : Nat} {xs : List Value} (h : CellsAt w A n xs) (m : Nat) (hm : m ≤ n) : CellsAt w A m (xs.take m) :=
  ⟨by rw [List.length_take, h.1]; omega, by have := h.2.1; omega, fun h0 => let ⟨b, off, e, hl, hc⟩ := h.2.2 (by omega); ⟨b, off, e, hl, fun j hj => by rw [hc j (by omega), List.getElem?_take_of_lt hj]⟩⟩

def ints (xs : List Int) : List Value := xs.map (Value.int .i64)
theorem ints_length (xs : List Int) : (ints xs).length = xs.length := by simp [ints]
theorem ints_getD (xs : List Int) (k : Nat) (h : k < xs.length) : (ints xs).getD k undef = .int .i64 (xs.getD k 0) := by
  simp [ints, List.getD_eq_getElem?_getD, List.getElem?_eq_getElem h]
theorem ints_one (xs : List Int) : ∀ u ∈ ints xs, u.oneCell' = true := by
  intro u hu
  obtain ⟨_, _, rfl⟩ := List.mem_map.1 hu
  rfl
theorem ints_append (xs ys : List Int) : ints (xs ++ ys) = ints xs ++ ints ys := by simp [ints]
theorem ints_take (xs : List Int) (k : Nat) : (ints xs).take k = ints (xs.take k) := by simp [ints]
theorem ints_set (xs : List Int) (k : Nat) (v : Int) : (ints xs).set k (.int .i64 v) = ints (xs.set k v) := by simp [ints]

abbrev IntsAt (w : World) (A : Option Addr) (n : Nat) (xs : List Int) : Prop := CellsAt w A n (ints xs)
theorem IntsAt.at_ {w : World} {A : Option Addr} {n : Nat} {xs : List Int} (h : IntsAt w A n xs) (k : Nat) (hk : k < n) :
    ∃ b off, A = some ⟨b, off, none⟩ ∧ w.cell? ⟨b, off + k, none⟩ = some (.int .i64 (xs.getD k 0)) := by
  obtain ⟨b, off, e, hc⟩ := CellsAt.at_ h k hk
  refine ⟨b, off, e, ?_⟩
  rw [hc, ints_getD _ _ (by have := h.1; rw [ints_length] at this; omega)]
theorem IntsAt.length {w : World} {A : Option Addr} {n : Nat} {xs : List Int} (h : IntsAt w A n xs) : xs.length = n := by
  have := h.1; rwa [ints_length] at this

/-- What is owned reads so. -/
theorem owns_cells {w : World} {base : Nat} {e : TypeId} {v : Value} {n : Nat} {xs : List Value} (h : w.ownsRow base e 1 v n xs) :
    ∃ A c, v = .slice A n c ∧ CellsAt w A n xs := by
  obtain ⟨hl, h0 | ⟨g, cap, cur, rfl, hg, hh, hn, hc, hs, ht⟩⟩ := id h
  · obtain ⟨rfl, rfl⟩ := h0
    obtain rfl : xs = [] := List.eq_nil_of_length_eq_zero (by simpa using hl)
    exact ⟨none, 0, rfl, CellsAt.nil _ _⟩
  · refine ⟨_, cap, rfl, by simpa using hl, by unfold maxLen at hc; omega, fun _ => ⟨g, 0, rfl, (Array.getElem?_eq_some_iff.1 hh).1, fun j hj => ?_⟩⟩
    rw [Nat.zero_add]
    exact h.cellAt j (by omega)

/-- A type of slices whose elements have one cell. -/
structure OneTy (P : Program) (t e : TypeId) (z : Value) (bytes : Nat) : Prop where
  ht : P.underlying t = some (.slice e)
  info : (P.info? e).map (fun i => (i.zero, i.size, i.bytes)) = some (some z, 1, bytes)
  hz : z.cells.size = 1

/-- 'append(own, xs...)', whatever xs: nil, empty, or not. -/
theorem wpList_append_src {P : Program} {w : World} {ops : Array Oper} {rest : List Oper} {o : Oper} {a : Act} {Q : Exit → Act → World → Prop}
    (t e : TypeId) (z : Value) (bytes base : Nat) (T : OneTy P t e z bytes) (s x : Operand) (hgd : o.guard = none)
    (ho : o.op = .call { callee := .builtin .append, args := #[s, x], argTypes := #[t, t] })
    (v : Value) (n : Nat) (xs : List Value) (hs : a.eval s = v) (hown : w.ownsRow base e 1 v n xs)
    (A : Option Addr) (m c : Nat) (news : List Value) (hx : a.eval x = .slice A m c) (hnone : A = none → m = 0 ∧ c = 0) (hsrc : CellsAt w A m news) (h1 : ∀ u ∈ news, u.oneCell' = true)
    (hbytes : (n + m) * bytes ≤ 140737488355328) (hb0 : 0 < bytes) (hbase : base ≤ w.heap.size)
    (h : ∀ v' w', w'.ownsRow base e 1 v' (n + m) (xs ++ news) → w.grownBy w' v.ownBlock → (v' = .slice none 0 0 ↔ v = .slice none 0 0 ∧ m = 0) → (v'.ownBlock = v.ownBlock ∨ v'.ownBlock = some w.heap.size) → wpList P ops Q rest (a.put o.dst v') w') :
    wpList P ops Q (o :: rest) a w := by
  obtain ⟨i, hi, hz0, hz1, hz2⟩ := info_parts T.info
  have hlen : n + m ≤ 140737488355328 := Nat.le_trans (Nat.le_mul_of_pos_right _ hb0) hbytes
  cases A with
  | none =>
    obtain ⟨rfl, rfl⟩ := hnone rfl
    obtain rfl : news = [] := List.eq_nil_of_length_eq_zero hsrc.1
    refine wpList_append_own_none hgd s x t ho base e i 1 T.ht hi v n xs hs hown hx (h v w (by simpa using hown) (World.grownBy.refl _ _) (by simp) (.inl rfl))
  | some ad =>
    refine wpList_append_own_at w hgd s x t ho base e i z 1 bytes T.ht hi hz0 hz1 hz2 T.hz (by omega) v n xs hs hown ad m c news hx (by simpa using hsrc.1) ?_ h1 (by unfold maxLen; omega) hbytes hbase h
    intro j u hu
    have hj : j < m := by have := (List.getElem?_eq_some_iff.1 hu).1; rwa [hsrc.1] at this
    obtain ⟨b, off, e1, _, hc⟩ := hsrc.2.2 (by omega)
    obtain rfl := Option.some.inj e1
    rw [Addr.add_lit, hc j hj]
    exact hu

/-- A row that a literal has just made. -/
theorem own_new (w : World) (e : TypeId) (cs : Array Value) (n base : Nat) (hn : cs.size = n) (hm : n ≤ 9223372036854775807) (hb : base ≤ w.heap.size) :
    (w.alloc (.cells cs e)).ownsRow base e 1 (.slice (some ⟨w.heap.size, 0, none⟩) n n) n cs.toList := by
  subst hn
  refine ⟨by simp, .inr ⟨w.heap.size, cs.size, cs, rfl, hb, heap_alloc_new _ _, Nat.le_refl _, by unfold maxLen; omega, by simp, by rw [Nat.mul_one]; exact List.take_of_length_le (by simp)⟩⟩

/-- The cells of a block that has just been made. -/
theorem cells_new (w : World) (cs : List Value) (e : TypeId) (h : cs.length ≤ 9223372036854775807 := by simp) : CellsAt (w.alloc (.cells cs.toArray e)) (some ⟨w.heap.size, 0, none⟩) cs.length cs :=
  ⟨rfl, h, fun _ => ⟨w.heap.size, 0, rfl, by simp, fun j hj => by
    rw [World.cell?_of_block (w' := w.alloc (.cells cs.toArray e)) rfl]
    simp only [World.cell?, heap_alloc_new, Nat.zero_add]
    simp⟩⟩

theorem grown_of_below {w w1 : World} (h : Below w.heap.size w w1) (row : Option Nat) : w.grownBy w1 row := ⟨h.os, h.tape, h.output, h.size, fun i hi _ => h.block i hi⟩
theorem pw_own_below {w w1 : World} {base : Nat} {e : TypeId} {size n : Nat} {v : Value} {xs : List Value} (h : w.ownsRow base e size v n xs) (hb : Below w.heap.size w w1) : w1.ownsRow base e size v n xs :=
  h.kept (grown_of_below hb none) (by cases v.ownBlock <;> simp)

/-! Contracts inside a region that only reads. -/
theorem quiet_l {P : Program} {f : FuncId} {args : Array Value} {w : World} {n : Nat} {v : Value}
    (h : Calls P f args (w.drewN n) fun e w' => e = .returned v ∧ w.drewN n = w') : Calls P f args (w.drewN n) fun e w'' => e = .returned v ∧ ∃ m, w'' = w.drewN m :=
  h.mono fun _ _ ⟨he, hm⟩ => ⟨he, n, hm.symm⟩
theorem quiet_k {P : Program} {f : FuncId} {args : Array Value} {w : World} {n : Nat} {v : Value}
    (h : Calls P f args (w.drewN n) fun e w' => e = .returned v ∧ ∃ m, w' = (w.drewN n).drewN m) : Calls P f args (w.drewN n) fun e w'' => e = .returned v ∧ ∃ m, w'' = w.drewN m :=
  h.mono fun _ _ ⟨he, m, hm⟩ => ⟨he, n + m, by rw [hm, World.drewN_drewN]⟩
theorem quiet_add_l {P : Program} {f : FuncId} {args : Array Value} {w : World} {a n : Nat} {v : Value}
    (h : Calls P f args (w.drewN (a + n)) fun e w' => e = .returned v ∧ w.drewN (a + n) = w') :
    Calls P f args (w.drewN (a + n)) fun e w'' => e = .returned v ∧ ∃ m, w'' = w.drewN (a + m) :=
  h.mono fun _ _ ⟨he, hm⟩ => ⟨he, n, hm.symm⟩
theorem quiet_add_k {P : Program} {f : FuncId} {args : Array Value} {w : World} {a n : Nat} {v : Value}
    (h : Calls P f args (w.drewN (a + n)) fun e w' => e = .returned v ∧ ∃ m, w' = (w.drewN (a + n)).drewN m) :
    Calls P f args (w.drewN (a + n)) fun e w'' => e = .returned v ∧ ∃ m, w'' = w.drewN (a + m) :=
  h.mono fun _ _ ⟨he, m, hm⟩ => ⟨he, n + m, by rw [hm, World.drewN_drewN, Nat.add_assoc]⟩

theorem Calls.world_eq {P : Program} {f : FuncId} {args : Array Value} {w : World} {e0 : Ending} (h : Calls P f args w fun e w' => e = e0 ∧ w = w') :
    Calls P f args w fun e w' => e = e0 ∧ ∃ k, w' = w.drewN k := h.mono fun _ _ ⟨a, b⟩ => ⟨a, 0, b.symm⟩
theorem below_drewN {B : Nat} {a w : World} (h : Below B a w) (n : Nat) : Below B a (w.drewN n) := h.trans ⟨rfl, rfl, rfl, Nat.le_refl _, fun _ _ => rfl⟩
theorem below_alloc {w : World} (o : Obj) : Below w.heap.size w (w.alloc o) := (Below.refl _ _).alloc (Nat.le_refl _) _
/-- Two steps, each new memory alone. -/
theorem below_then {a b c : World} (h : Below a.heap.size a b) (k : Below b.heap.size b c) : Below a.heap.size a c := h.trans (k.mono h.size)
end Go.Proofs.YtnbpgipbfejllaaDoor
/- Laws that texts on disks and journals share: what a call may turn; rows of bytes; append of zeros; copy. -/
namespace Go.Proofs.YtnbpgipbfejllaaDoor
open Go.RowKit
set_option linter.unusedVariables false

/-! ### What a call may turn: the blocks of F, and new ones -/
structure Keep (F : Nat → Prop) (w w' : World) : Prop where
  os : w'.os = w.os
  tape : w'.tape = w.tape
  output : w'.output = w.output
  size : w.heap.size ≤ w'.heap.size
  block : ∀ k, k < w.heap.size → ¬ F k → w'.heap[k]? = w.heap[k]?
theorem Keep.refl (F : Nat → Prop) (w : World) : Keep F w w := ⟨rfl, rfl, rfl, Nat.le_refl _, fun _ _ _ => rfl⟩
theorem Keep.trans {F : Nat → Prop} {a b c : World} (h : Keep F a b) (k : Keep F b c) : Keep F a c :=
  ⟨k.os.trans h.os, k.tape.trans h.tape, k.output.trans h.output, Nat.le_trans h.size k.size, fun i hi hf => (k.block i (Nat.lt_of_lt_of_le hi h.size) hf).trans (h.block i hi hf)⟩
/-- The second step may turn what the first has made, too. -/
theorem Keep.then {F F' : Nat → Prop} {a b c : World} (h : Keep F a b) (k : Keep F' b c) (hF : ∀ i, F' i → F i ∨ a.heap.size ≤ i) : Keep F a c :=
  ⟨k.os.trans h.os, k.tape.trans h.tape, k.output.trans h.output, Nat.le_trans h.size k.size, fun i hi hf => (k.block i (Nat.lt_of_lt_of_le hi h.size) (fun h' => by rcases hF i h' with h1 | h1; exact hf h1; omega)).trans (h.block i hi hf)⟩
theorem Keep.mono {F F' : Nat → Prop} {w w' : World} (h : Keep F w w') (hF : ∀ i, F i → F' i) : Keep F' w w' := ⟨h.os, h.tape, h.output, h.size, fun i hi hf => h.block i hi (fun h' => hf (hF i h'))⟩
theorem Keep.of_below {F : Nat → Prop} {w w' : World} (h : Below w.heap.size w w') : Keep F w w' := ⟨h.os, h.tape, h.output, h.size, fun i hi _ => h.block i hi⟩
theorem Keep.below {F : Nat → Prop} {w w' : World} {B : Nat} (h : Keep F w w') (hF : ∀ i, F i → B ≤ i) (hB : B ≤ w.heap.size) : Below B w w' :=
  ⟨h.os, h.tape, h.output, h.size, fun i hi => h.block i (by omega) (fun h' => by have := hF i h'; omega)⟩
theorem Keep.drewN {F : Nat → Prop} {w w' : World} (h : Keep F w w') (n : Nat) : Keep F w (w'.drewN n) := ⟨h.os, h.tape, h.output, h.size, h.block⟩
theorem Keep.drew {F : Nat → Prop} {w w' : World} (h : Keep F w w') : Keep F w w'.drew := ⟨h.os, h.tape, h.output, h.size, h.block⟩
theorem Keep.alloc {F : Nat → Prop} {w w' : World} (h : Keep F w w') (o : Obj) : Keep F w (w'.alloc o) := h.then (Keep.of_below (F := F) (below_alloc o)) (fun _ h => .inl h)
theorem Keep.setCell {F : Nat → Prop} {w w' : World} (h : Keep F w w') {a : Addr} (ha : F a.block ∨ w.heap.size ≤ a.block) (v : Value) : Keep F w (w'.setCell a v) :=
  h.then (F' := fun k => k = a.block) ⟨rfl, rfl, rfl, by simp [World.setCell], fun k _ hk => Below.heap_setCell _ _ _ _ hk⟩ (fun i hi => by rw [hi]; exact ha)
theorem Keep.grown {F : Nat → Prop} {w w' w2 : World} {row : Option Nat} (h : Keep F w w') (hg : w'.grownBy w2 row) (hr : ∀ k, row = some k → F k ∨ w.heap.size ≤ k) : Keep F w w2 :=
  h.then (F' := fun k => row = some k) ⟨hg.os, hg.tape, hg.output, hg.size, fun k hk hn => hg.block k hk (fun e => hn e.symm)⟩ hr
theorem Keep.cell {F : Nat → Prop} {w w' : World} (h : Keep F w w') {p : Addr} (hp : p.block < w.heap.size) (hF : ¬ F p.block) : w'.cell? p = w.cell? p := World.cell?_of_block (w := w) (h.block p.block hp hF)
theorem Keep.own {F : Nat → Prop} {w w' : World} {base n size : Nat} {e : TypeId} {v : Value} {xs : List Value} (h : Keep F w w') (ho : w.ownsRow base e size v n xs) (hne : ∀ b, v.ownBlock = some b → ¬ F b) : w'.ownsRow base e size v n xs := by
  obtain ⟨hl, h0 | ⟨g, cap, cur, rfl, hg, hh, hr⟩⟩ := ho
  · exact ⟨hl, .inl h0⟩
  · exact ⟨hl, .inr ⟨g, cap, cur, rfl, hg, (h.block g (Array.getElem?_eq_some_iff.1 hh).1 (hne g rfl)).trans hh, hr⟩⟩
theorem CellsAt.keep {F : Nat → Prop} {w w' : World} {A : Option Addr} {n : Nat} {xs : List Value} (hc : CellsAt w A n xs) (h : Keep F w w') (hne : ∀ b, A = some b → ¬ F b.block) : CellsAt w' A n xs :=
  ⟨hc.1, hc.2.1, fun h0 => let ⟨b, off, e, hl, hx⟩ := hc.2.2 h0; ⟨b, off, e, Nat.lt_of_lt_of_le hl h.size, fun j hj => (h.cell (p := ⟨b, off + j, none⟩) hl (show ¬ F b from hne _ e)).trans (hx j hj)⟩⟩
theorem own_lt {w : World} {base n size : Nat} {e : TypeId} {v : Value} {xs : List Value} (h : w.ownsRow base e size v n xs) : ∀ k, v.ownBlock = some k → k < w.heap.size := fun k hk => (h.lt k hk).2
theorem own_base {w : World} {base n size : Nat} {e : TypeId} {v : Value} {xs : List Value} (h : w.ownsRow base e size v n xs) (base' : Nat) (hb : ∀ k, v.ownBlock = some k → base' ≤ k) : w.ownsRow base' e size v n xs := by
  obtain ⟨hl, h0 | ⟨g, cap, cur, rfl, hg, hr⟩⟩ := h
  · exact ⟨hl, .inl h0⟩
  · exact ⟨hl, .inr ⟨g, cap, cur, rfl, hb g rfl, hr⟩⟩
theorem own_zero {w : World} {base n size : Nat} {e : TypeId} {v : Value} {xs : List Value} (h : w.ownsRow base e size v n xs) : w.ownsRow 0 e size v n xs := own_base h 0 (fun _ _ => Nat.zero_le _)
/-- An owned row's block bears its elements' type. -/
theorem own_type {w : World} {base n size : Nat} {e : TypeId} {v : Value} {xs : List Value} (h : w.ownsRow base e size v n xs) {k : Nat} (hk : v.ownBlock = some k) : ∃ cur, w.heap[k]? = some (.cells cur e (0, 0)) := by
  obtain ⟨hl, ⟨rfl, _⟩ | ⟨g, cap, cur, rfl, hg, hh, _⟩⟩ := h
  · simp [Value.ownBlock] at hk
  · have : g = k := by simpa [Value.ownBlock] using hk
    subst this
    exact ⟨cur, hh⟩
theorem own_slice {w : World} {base n size : Nat} {e : TypeId} {v : Value} {xs : List Value} (h : w.ownsRow base e size v n xs) : ∃ A c, v = .slice A n c := by
  obtain ⟨_, ⟨rfl, rfl⟩ | ⟨g, cap, cur, rfl, _⟩⟩ := h
  · exact ⟨none, 0, rfl⟩
  · exact ⟨_, cap, rfl⟩

/-! ### Bytes -/
def b8 (l : List UInt8) : List Value := l.map fun b => .int .u8 (b.toNat : Int)
theorem b8_length (l : List UInt8) : (b8 l).length = l.length := by simp [b8]
theorem b8_append (l m : List UInt8) : b8 (l ++ m) = b8 l ++ b8 m := by simp [b8]
theorem b8_take (l : List UInt8) (n : Nat) : (b8 l).take n = b8 (l.take n) := by simp [b8]
theorem b8_drop (l : List UInt8) (n : Nat) : (b8 l).drop n = b8 (l.drop n) := by simp [b8]
theorem b8_zeros (n : Nat) : List.replicate n (Value.int .u8 0) = b8 (List.replicate n 0) := by simp [b8]
theorem b8_one (l : List UInt8) : ∀ u ∈ b8 l, u.oneCell' = true := by
  intro u hu
  obtain ⟨_, _, rfl⟩ := List.mem_map.1 hu
  rfl

/-! ### append(v, make([]T, n)...) -/
theorem zeroCells_one (z : Value) (n : Nat) : Builtin.zeroCells #[z] n = (List.replicate n z).toArray := by
  apply Array.ext
  · simp [Builtin.zeroCells]
  · intro i h1 h2
    simp [Builtin.zeroCells, Nat.mod_one]
section
variable {P : Program} (w : World)
theorem run_zeros_room (t tn ty e : TypeId) (i : TypeInfo) (z : Value) (k kn : IntKind) (ht : P.underlying t = some (.slice e)) (htn : P.underlying tn = some (.int kn)) (hi : P.info? e = some i) (hz : i.zero = some z) (hz1 : z.cells = #[z]) (hs : i.size = 1) (hoc : z.oneCell' = true)
    (g sLen sCap : Nat) (cur : Array Value) (hg : w.heap[g]? = some (.cells cur e (0, 0))) (m : Nat) (hm : 0 < m) (hmb : m * i.bytes ≤ 281474976710656) (hm63 : m ≤ 281474976710656) (hroom : sLen + m ≤ sCap) (hfit : sLen + m ≤ cur.size) :
    (Builtin.append_ #[t, tn] ty #[.slice (some ⟨g, 0, none⟩) sLen sCap, .int k m]).run P w =
      .ok (.slice (some ⟨g, 0, none⟩) (sLen + m) sCap) (w.setRow g (cur.toList.take sLen ++ List.replicate m z ++ cur.toList.drop (sLen + m)).toArray) := by
  have hst := run_storeCells_at P g sLen e (List.replicate m z) 0 cur w hg (by simpa using hfit) (by intro u hu; rw [List.eq_of_mem_replicate hu]; exact hoc)
  simp only [Nat.add_zero, List.length_replicate] at hst
  have hw : IntKind.i64.wrap (m : Int) = m := by rw [IntKind.wrap_i64]; omega
  have hneg : ¬ ((m : Int) < 0) := by omega
  have h48i : ¬ (281474976710656 < (m : Int) * (i.bytes : Int)) := by
    rw [← Int.natCast_mul]
    omega
  have hne : ¬ (m = 0) := by omega
  have hzc : Builtin.zeroCells z.cells m = (List.replicate m z).toArray := by rw [hz1]; exact zeroCells_one z m
  simp [Builtin.append_, run_underlying ht, run_underlying htn, sizeOf, typeInfo, zeroValue, hi, hz, asInt, asIntOf, hw, hneg, h48i, hs, hne, hroom, Addr.add_lit, hzc, hst]

theorem run_zeros_own (base : Nat) (t tn ty e : TypeId) (i : TypeInfo) (z : Value) (bytes : Nat) (k kn : IntKind) (ht : P.underlying t = some (.slice e)) (htn : P.underlying tn = some (.int kn)) (hi : P.info? e = some i) (hz : i.zero = some z) (hz1 : z.cells = #[z]) (hs : i.size = 1) (hby : i.bytes = bytes) (hoc : z.oneCell' = true)
    (v : Value) (n : Nat) (xs : List Value) (hown : w.ownsRow base e 1 v n xs) (m : Nat) (hm : 0 < m) (hbytes : (n + m) * bytes ≤ 140737488355328) (hb0 : 0 < bytes) (hbase : base ≤ w.heap.size) :
    ∃ v' w', (Builtin.append_ #[t, tn] ty #[v, .int k m]).run P w = .ok v' w' ∧ w'.ownsRow base e 1 v' (n + m) (xs ++ List.replicate m z) ∧ w.grownBy w' v.ownBlock ∧ (v'.ownBlock = v.ownBlock ∨ v'.ownBlock = some w.heap.size) := by
  subst hby
  have hlen0 : n + m ≤ 140737488355328 := Nat.le_trans (Nat.le_mul_of_pos_right _ hb0) hbytes
  have h63 : n + m ≤ maxLen := by unfold maxLen; omega
  have hmb : m * i.bytes ≤ 281474976710656 := by
    have : m * i.bytes ≤ (n + m) * i.bytes := Nat.mul_le_mul_right _ (by omega)
    omega
  have hlen : (xs ++ List.replicate m z).length = (n + m) * 1 := by rw [List.length_append, hown.1, List.length_replicate]; omega
  have hzc : ∀ q, Builtin.zeroCells z.cells q = (List.replicate q z).toArray := fun q => by rw [hz1]; exact zeroCells_one z q
  have grown : ∀ (old : Nat), old < n + m → ∀ (row : Option Nat),
      (w.drew.alloc (.cells (xs.toArray ++ Builtin.zeroCells z.cells m ++ Builtin.zeroCells z.cells (grownCap w (n + m) old e - (n + m))) e)).ownsRow base e 1
        (.slice (some ⟨w.heap.size, 0, none⟩) (n + m) (grownCap w (n + m) old e)) (n + m) (xs ++ List.replicate m z) ∧
      w.grownBy (w.drew.alloc (.cells (xs.toArray ++ Builtin.zeroCells z.cells m ++ Builtin.zeroCells z.cells (grownCap w (n + m) old e - (n + m))) e)) row := by
    intro old ho row
    have hge := grownCap_ge w (n + m) old e
    have hcm : grownCap w (n + m) old e ≤ maxLen := grownCap_le_maxLen w (n + m) old e h63
    refine ⟨⟨hlen, .inr ⟨w.heap.size, _, _, rfl, hbase, heap_alloc_new w.drew _, hge, hcm, ?_, ?_⟩⟩, ⟨rfl, rfl, rfl, by simp, fun k hk _ => Below.heap_alloc w.drew _ k hk⟩⟩
    · have := hown.1
      simp only [hzc, Array.size_append, List.size_toArray, List.length_replicate]
      omega
    · simp only [hzc, Array.toList_append, List.append_assoc]
      rw [← List.append_assoc, ← hlen]
      exact List.take_left
  rcases hown.2 with ⟨rfl, rfl⟩ | ⟨g, cap, cur, rfl, hbg, hg, hnc, hcm, hcs, htake⟩
  · have hx : xs = [] := List.eq_nil_of_length_eq_zero (by simpa using hown.1)
    subst hx
    have hr := Lib.run_append_nil_zeros (P := P) w t tn ty e i z k kn ht htn hi hz m hm (by omega) (by omega) hmb
    have hgr := grown 0 (by omega) (Value.ownBlock (.slice none 0 0))
    simp only [Nat.zero_add, List.nil_append, Array.empty_append] at hgr ⊢
    exact ⟨_, _, hr, hgr.1, hgr.2, .inr rfl⟩
  · by_cases hroom : n + m ≤ cap
    · have hfit : n + m ≤ cur.size := by omega
      have hr := run_zeros_room (P := P) w t tn ty e i z k kn ht htn hi hz hz1 hs hoc g n cap cur hg m hm hmb (by omega) hroom hfit
      refine ⟨_, _, hr, ⟨hlen, .inr ⟨g, cap, _, rfl, hbg, setRow_heap w g cur _ e _ hg, hroom, hcm, ?_, ?_⟩⟩, ⟨rfl, rfl, rfl, by simp, fun k _ hk => setRow_other w g k _ (fun e => hk (by simp [Value.ownBlock, e]))⟩, .inl rfl⟩
      · simp only [List.size_toArray, List.length_append, List.length_take, List.length_drop, Array.length_toList, List.length_replicate]
        omega
      · rw [Nat.mul_one] at htake
        rw [htake, ← hlen]
        exact List.take_left
    · have hold : (Builtin.firstCells i.size n (.slice (some ⟨g, 0, none⟩) n cap)).run P w.drew = .ok xs.toArray w.drew := by
        have holds : ∀ j u, xs[j]? = some u → w.drew.cell? ((⟨g, 0, none⟩ : Addr).add j) = some u := hown.cells (g := g) rfl
        have := run_firstCells_some (P := P) w.drew i.size n ⟨g, 0, none⟩ n cap xs (by rw [hs]; exact hown.1) holds
        exact this
      have hr := Lib.run_append_grow_zeros (P := P) w t tn ty e i z k kn ht htn hi hz (some ⟨g, 0, none⟩) n cap xs hold m hm (by omega) (by omega) (by omega) hmb (growslice_fits (by omega) hbytes)
      have hgr := grown cap (by omega) (Value.ownBlock (.slice (some ⟨g, 0, none⟩) n cap))
      exact ⟨_, _, hr, hgr.1, hgr.2, .inr rfl⟩
end
/-- 'append(v, make([]T, m)...)', m not 0. -/
theorem wpList_append_zeros {P : Program} {w : World} {ops : Array Oper} {rest : List Oper} {o : Oper} {a : Act} {Q : Exit → Act → World → Prop} (hgd : o.guard = none)
    (t tn e : TypeId) (z : Value) (bytes base : Nat) (kn : IntKind) (s x : Operand)
    (ho : o.op = .call { callee := .builtin .append, args := #[s, x], argTypes := #[t, tn] })
    (T : OneTy P t e z bytes) (htn : P.underlying tn = some (.int kn)) (hz1 : z.cells = #[z]) (hoc : z.oneCell' = true) (hb0 : 0 < bytes)
    (v : Value) (hs : a.eval s = v) (n : Nat) (xs : List Value) (k : IntKind) (M : Int) (hx : a.eval x = .int k M) (m : Nat) (hM : M = m) (hm : 0 < m) (hown : w.ownsRow base e 1 v n xs) (hbytes : (n + m) * bytes ≤ 140737488355328) (hbase : base ≤ w.heap.size)
    (h : ∀ v' w', w'.ownsRow base e 1 v' (n + m) (xs ++ List.replicate m z) → w.grownBy w' v.ownBlock → (v'.ownBlock = v.ownBlock ∨ v'.ownBlock = some w.heap.size) → wpList P ops Q rest (a.put o.dst v') w') :
    wpList P ops Q (o :: rest) a w := by
  subst hM
  obtain ⟨i, hi, hz0, hs1, hby⟩ := info_parts T.info
  obtain ⟨v', w', hr, h2, h3, h4⟩ := run_zeros_own (P := P) w base t tn o.type e i z bytes k kn T.ht htn hi hz0 hz1 hs1 hby hoc v n xs hown m hm hbytes hb0 hbase
  exact Lib.wpList_append_run w hgd s x t tn ho v (.int k m) hs hx v' w' hr (h v' w' h2 h3 h4)

/-! ### copy(own[off:], xs) -/
theorem take_three {α : Type} (A N D : List α) (n : Nat) (h : A.length + N.length ≤ n) : (A ++ (N ++ D)).take n = A ++ (N ++ D.take (n - A.length - N.length)) := by
  rw [List.take_append, List.take_of_length_le (show A.length ≤ n by omega), List.take_append, List.take_of_length_le (show N.length ≤ n - A.length by omega)]
/-- 'copy(v[off:], xs)': the row's cells from off on are xs. 'A': the address of the cut, which Go leaves where it was if the cut is empty. -/
theorem wpList_copy_row {P : Program} {w : World} {ops : Array Oper} {rest : List Oper} {o : Oper} {a : Act} {Q : Exit → Act → World → Prop} (hgd : o.guard = none) (d s : Operand) (t e : TypeId) (z : Value) (bytes base : Nat) (T : OneTy P t e z bytes)
    (ho : o.op = .call { callee := .builtin .copy, args := #[d, s], argTypes := #[t, t] })
    (v : Value) (n : Nat) (xs : List Value) (hown : w.ownsRow base e 1 v n xs) (off : Nat) (A : Option Addr) (L C : Nat) (hd : a.eval d = .slice A L C) (hL : L = n - off)
    (B : Option Addr) (m c : Nat) (hs : a.eval s = .slice B m c) (news : List Value) (hsrc : CellsAt w B m news) (hfit : off + m ≤ n) (hA : 0 < m → ∀ g, v.ownBlock = some g → A = some ⟨g, off, none⟩) (h1 : ∀ u ∈ news, u.oneCell' = true)
    (h : ∀ w', w'.ownsRow base e 1 v n (xs.take off ++ (news ++ xs.drop (off + m))) → w.grownBy w' v.ownBlock → wpList P ops Q rest (a.put o.dst (goInt m)) w') :
    wpList P ops Q (o :: rest) a w := by
  have hsz : (P.info? e).map (·.size) = some 1 := by
    obtain ⟨i, hi, _, hs1, _⟩ := info_parts T.info
    rw [hi]; simp [hs1]
  have hmin : Nat.min m L = m := Nat.min_eq_left (by omega)
  by_cases hm : m = 0
  · subst hm
    obtain rfl : news = [] := List.eq_nil_of_length_eq_zero hsrc.1
    refine wpList_copy_nothing hgd d s t t ho e T.ht hsz A B L C 0 c hd hs (by simp) ?_
    exact h w (by simpa using hown) (World.grownBy.refl _ _)
  · obtain ⟨hl, ⟨rfl, rfl⟩ | ⟨g, cap, cur, rfl, hg, hh, hn, hc, hcs, htake⟩⟩ := id hown
    · omega
    · have hA' := hA (by omega) g rfl
      subst hA'
      obtain ⟨b, boff, rfl, hblt, hcell⟩ := hsrc.2.2 (by omega)
      have hnl : news.length = m := hsrc.1
      refine wpList_copy_own hgd d s t t ho e T.ht hsz g off L C ⟨b, boff, none⟩ m c hd hs cur e hh news (by rw [hmin, hnl]) ?_ (by omega) h1 ?_
      · intro j u hu
        have hj : j < m := by have := (List.getElem?_eq_some_iff.1 hu).1; rwa [hnl] at this
        rw [Addr.add_lit, hcell j hj]
        exact hu
      · rw [hnl]
        refine h _ ⟨by simp at hl ⊢; omega, .inr ⟨g, cap, _, rfl, hg, setRow_heap w g cur _ e _ hh, hn, hc, ?_, ?_⟩⟩ ⟨rfl, rfl, rfl, by simp, fun k _ hk => setRow_other w g k _ (fun e => hk (by simp [Value.ownBlock, e]))⟩
        · simp only [List.size_toArray, List.length_append, List.length_take, List.length_drop, Array.length_toList]
          omega
        · rw [Nat.mul_one] at htake ⊢
          have e1 : cur.toList.take off = xs.take off := by rw [← htake, List.take_take, Nat.min_eq_left (by omega)]
          have hxl : xs.length = n := by simpa using hl
          have e2 : (cur.toList.drop (off + m)).take (n - (off + m)) = xs.drop (off + m) := by rw [← htake, List.drop_take]
          have hcl : cur.toList.length = cap := by simpa using hcs
          show List.take n (cur.toList.take off ++ (news ++ cur.toList.drop (off + m))) = xs.take off ++ (news ++ xs.drop (off + m))
          rw [e1, ← e2]
          have l1 : (xs.take off).length = off := by simp; omega
          rw [take_three _ _ _ _ (by omega), l1, hnl, Nat.sub_sub]
end Go.Proofs.YtnbpgipbfejllaaDoor
/- append of any source onto an owned row, in a region that draws its order; the beginning of an owned row. -/
namespace Go.Proofs.YtnbpgipbfejllaaDoor
open Go.RowKit
set_option linter.unusedVariables false

theorem own_none {w : World} {base : Nat} {e : TypeId} {v : Value} {n : Nat} {xs : List Value} (h : w.ownsRow base e 1 v n xs) : ∃ A c, v = .slice A n c ∧ (A = none → n = 0 ∧ c = 0) ∧ CellsAt w A n xs := by
  obtain ⟨A, c, rfl, hc⟩ := owns_cells h
  refine ⟨A, c, rfl, ?_, hc⟩
  rintro rfl
  obtain ⟨_, ⟨h1, h2⟩ | ⟨g, cap, cur, h1, _⟩⟩ := h
  · injection h1 with _ _ h3
    exact ⟨h2, h3⟩
  · cases h1
/-- v[:0] -/
theorem own_zero_len {w : World} {base : Nat} {e : TypeId} {A : Option Addr} {c n : Nat} {xs : List Value} (h : w.ownsRow base e 1 (.slice A n c) n xs) : w.ownsRow base e 1 (.slice A 0 c) 0 [] := by
  obtain ⟨hl, ⟨h1, rfl⟩ | ⟨g, cap, cur, h1, hg, hh, hn, hc, hs, ht⟩⟩ := h
  · cases h1
    exact World.ownsRow_nil _ _ _ _
  · cases h1
    exact ⟨rfl, .inr ⟨g, _, cur, rfl, hg, hh, Nat.zero_le _, hc, hs, by simp⟩⟩

/-- 'append(own, xs...)', whatever xs: nil, empty, or not: at a step of a region that draws. -/
theorem step_append_src {P : Program} {w : World} {ops : Array Oper} {o : Oper} {a : Act} {K : Act → World → Prop} {Q : Exit → Act → World → Prop} {E : Prop} (hgd : o.guard = none)
    (t e : TypeId) (z : Value) (bytes base : Nat) (T : OneTy P t e z bytes) (s x : Operand)
    (ho : o.op = .call { callee := .builtin .append, args := #[s, x], argTypes := #[t, t] })
    (v : Value) (n : Nat) (xs : List Value) (hs : a.eval s = v) (hown : w.ownsRow base e 1 v n xs)
    (A : Option Addr) (m c : Nat) (news : List Value) (hx : a.eval x = .slice A m c) (hnone : A = none → m = 0 ∧ c = 0) (hsrc : CellsAt w A m news) (h1 : ∀ u ∈ news, u.oneCell' = true)
    (hbytes : (n + m) * bytes ≤ 140737488355328) (hb0 : 0 < bytes) (hbase : base ≤ w.heap.size)
    (h : ∀ A' c' w', w'.ownsRow base e 1 (.slice A' (n + m) c') (n + m) (xs ++ news) → w.grownBy w' v.ownBlock → ((Value.slice A' (n + m) c').ownBlock = v.ownBlock ∨ (Value.slice A' (n + m) c').ownBlock = some w.heap.size) → K (a.put o.dst (.slice A' (n + m) c')) w') :
    if Region.wanted o (yielded ops a.tmps) = true then Oper.wp P o a w K Q else E := by
  have hw : Region.wanted o (yielded ops a.tmps) = true := by simp [Region.wanted, hgd]
  rw [if_pos hw]
  obtain ⟨i, hi, hz0, hz1, hz2⟩ := info_parts T.info
  have hlen : n + m ≤ 140737488355328 := Nat.le_trans (Nat.le_mul_of_pos_right _ hb0) hbytes
  obtain ⟨A0, c0, rfl⟩ := own_slice hown
  cases A with
  | none =>
    obtain ⟨rfl, rfl⟩ := hnone rfl
    obtain rfl : news = [] := List.eq_nil_of_length_eq_zero hsrc.1
    have hrun := run_append_owned_none (P := P) (w := w) base t o.type e i 1 T.ht hi _ n xs hown
    unfold Oper.wp
    simp [execOp, ho, resolve, invoke, builtin, hs, hx, hrun, Result.andThen]
    exact h A0 c0 w (by simpa using hown) (World.grownBy.refl _ _) (.inl rfl)
  | some ad =>
    obtain ⟨v', w', hr, h2, h3, h4, h5⟩ := run_append_own_at (P := P) w base t o.type e i z 1 bytes T.ht hi hz0 hz1 hz2 T.hz (by omega) _ n xs hown ad m c news (by simpa using hsrc.1) (by
      intro j u hu
      have hj : j < m := by have := (List.getElem?_eq_some_iff.1 hu).1; rwa [hsrc.1] at this
      obtain ⟨b, off, e1, _, hc⟩ := hsrc.2.2 (by omega)
      obtain rfl := Option.some.inj e1
      rw [Addr.add_lit, hc j hj]
      exact hu) h1 (by unfold maxLen; omega) hbytes hbase
    obtain ⟨A', c', rfl⟩ := own_slice h2
    unfold Oper.wp execOp
    simp only [ho, resolve, invoke, builtin, Sem.run_bind, Sem.run_pure, Result.andThen_ok, List.map_toArray, List.map_cons, List.map_nil, hs, hx, hr]
    exact h A' c' w' h2 h3 h5
theorem own_len (A : Option Addr) (n m : Nat) {c : Nat} : (Value.slice A n c).ownBlock = (Value.slice A m c).ownBlock := by cases A <;> rfl
theorem grown_far {w w1 : World} {row : Option Nat} (hg : w.drew.grownBy w1 row) {p i : Nat} {v : Value} (h : w.cell? ⟨p, i, none⟩ = some v) (f : w.frozen? ⟨p, i, none⟩ = false) (hp : p < w.heap.size) (hne : some p ≠ row) :
    w1.cell? ⟨p, i, none⟩ = some v ∧ w1.frozen? ⟨p, i, none⟩ = false := by
  have hb : w1.heap[p]? = w.heap[p]? := hg.block p hp hne
  exact ⟨(World.cell?_of_block (a := ⟨p, i, none⟩) hb).trans h, (World.frozen?_of_block (a := ⟨p, i, none⟩) hb).trans f⟩
theorem keep_frozen {F : Nat → Prop} {w w' : World} (hk : Keep F w w') {a : Addr} (hp : a.block < w.heap.size) (hF : ¬ F a.block) : w'.frozen? a = w.frozen? a := World.frozen?_of_block (hk.block a.block hp hF)
theorem keep_draw (F : Nat → Prop) (w : World) : Keep F w w.drew := ⟨rfl, rfl, rfl, Nat.le_refl _, fun _ _ _ => rfl⟩
theorem grown_drew {w w' : World} {row : Option Nat} (h : w.drew.grownBy w' row) : w.grownBy w' row := ⟨h.os, h.tape, h.output, h.size, h.block⟩

end Go.Proofs.YtnbpgipbfejllaaDoor
/- Words that the texts without a disk share: blocks known whole, what a step may turn, strings as lists of bytes. -/
namespace Go.Proofs.YtnbpgipbfejllaaDoor
open Go.RowKit
set_option linter.unusedVariables false

abbrev Bytes := List UInt8
theorem getD_mem {α : Type} {l : List α} {i : Nat} {x : α} (h : i < l.length) : l.getD i x ∈ l := by
  rw [List.getD_eq_getElem?_getD, List.getElem?_eq_getElem h]
  exact List.getElem_mem _
theorem blk_cell {w : World} {p : Nat} {cs : Array Value} {t : TypeId} {fr : Nat × Nat} (h : w.heap[p]? = some (.cells cs t fr)) (i : Nat) : w.cell? ⟨p, i, none⟩ = cs[i]? := by simp [World.cell?, h]
theorem blk_free {w : World} {p : Nat} {cs : Array Value} {t : TypeId} (h : w.heap[p]? = some (.cells cs t (0, 0))) (i : Nat) : w.frozen? ⟨p, i, none⟩ = false := by simp [World.frozen?, h]
theorem blk_lt {w : World} {p : Nat} {o : Obj} (h : w.heap[p]? = some o) : p < w.heap.size := (Array.getElem?_eq_some_iff.1 h).1
theorem blk_set {w : World} {p : Nat} {cs : Array Value} {t : TypeId} {fr : Nat × Nat} (h : w.heap[p]? = some (.cells cs t fr)) (i : Nat) (v : Value) :
    (w.setCell ⟨p, i, none⟩ v).heap[p]? = some (.cells (cs.setIfInBounds i v) t fr) := by
  obtain ⟨hlt, hk⟩ := Array.getElem?_eq_some_iff.1 h
  show (w.heap.modify p _)[p]? = _
  rw [Array.getElem?_eq_getElem (by rw [Array.size_modify]; exact hlt), Array.getElem_modify_self, hk]
  rfl
theorem blk_below {w w' : World} {p : Nat} {o : Obj} (h : w.heap[p]? = some o) (hb : Below w.heap.size w w') : w'.heap[p]? = some o := (hb.block p (blk_lt h)).trans h

theorem keep_set {p : Nat} {w w' : World} (h : Keep (fun k => k = p) w w') (i : Nat) (v : Value) : Keep (fun k => k = p) w (w'.setCell ⟨p, i, none⟩ v) := h.setCell (a := ⟨p, i, none⟩) (.inl rfl) v
theorem cell_kept {F : Nat → Prop} {w w' : World} (hk : Keep F w w') {a : Addr} {v : Value} (h : w.cell? a = some v) (hF : ¬ F a.block) : w'.cell? a = some v := (hk.cell (World.block_lt_of_cell? _ _ h) hF).trans h
theorem blk_own_ne {w : World} {p k : Nat} {cs : Array Value} {t e : TypeId} {fr : Nat × Nat} {base size n : Nat} {v : Value} {xs : List Value} (h : w.heap[p]? = some (.cells cs t fr)) (ho : w.ownsRow base e size v n xs) (hk : v.ownBlock = some k) (hte : t ≠ e) : k ≠ p := by
  rintro rfl
  obtain ⟨cur, hc⟩ := own_type ho hk
  rw [h] at hc
  injection hc with hc
  injection hc with _ h2
  exact hte h2
theorem keep_drewN (F : Nat → Prop) (w : World) (n : Nat) : Keep F w (w.drewN n) := ⟨rfl, rfl, rfl, Nat.le_refl _, fun _ _ _ => rfl⟩
theorem Keep.alloc' {w w' : World} (h : Keep (fun _ => False) w w') (o : Obj) : Keep (fun _ => False) w (w'.alloc o) :=
  h.trans ⟨rfl, rfl, rfl, by simp, fun k hk _ => Below.heap_alloc w' o k hk⟩

/-! ### Strings as lists of bytes -/
def bs (s : ByteArray) : Bytes := s.data.toList
theorem bs_length (s : ByteArray) : (bs s).length = s.size := by
  show s.data.toList.length = s.data.size
  exact Array.length_toList
theorem bs_take (s : ByteArray) (n : Nat) : bs (s.extract 0 n) = (bs s).take n := by
  simp [bs, ByteArray.data_extract, Array.toList_extract, List.extract_eq_take_drop]
theorem bs_drop (s : ByteArray) (n : Nat) : bs (s.extract n s.size) = (bs s).drop n := by
  simp only [bs, ByteArray.data_extract, Array.toList_extract, List.extract_eq_take_drop]
  exact List.take_of_length_le (by rw [List.length_drop, Array.length_toList]; exact Nat.le_refl _)

/-- A string made of bytes. -/
def sb (l : Bytes) : ByteArray := ⟨l.toArray⟩
theorem bs_sb (l : Bytes) : bs (sb l) = l := rfl
theorem sb_bs (s : ByteArray) : sb (bs s) = s := rfl
theorem sb_size (l : Bytes) : (sb l).size = l.length := by
  show l.toArray.size = _
  simp
theorem sb_inj {l m : Bytes} (h : sb l = sb m) : l = m := by
  have := congrArg bs h
  exact this

def strs (l : List Bytes) : List Value := l.map fun r => .string (sb r)
abbrev Since (n : Nat) (w w' : World) : Prop := Keep (fun k => n ≤ k) w w'
theorem Since.mono {n m : Nat} {w w' : World} (h : Since n w w') (hm : m ≤ n) : Since m w w' := Keep.mono h (fun k hk => Nat.le_trans hm hk)
theorem since_draw (n k : Nat) (w : World) : Since n w (w.drewN k) := keep_drewN _ w k
theorem Since.of {n : Nat} {w w' : World} (h : Keep (fun _ => False) w w') : Since n w w' := Keep.mono h (fun _ => False.elim)
theorem below_since {n : Nat} {w w' : World} (h : Since n w w') (hn : n = w.heap.size) : Below w.heap.size w w' := by
  subst hn
  exact ⟨h.os, h.tape, h.output, h.size, fun k hk => h.block k hk (by omega)⟩
theorem blk_grown {W W' : World} {row : Option Nat} {b : Nat} {o : Obj} (h : W.heap[b]? = some o) (hg : W.grownBy W' row) (hr : row ≠ some b) : W'.heap[b]? = some o :=
  (hg.block b (blk_lt h) (fun e => hr e.symm)).trans h
theorem alloc_old' {w : World} {b : Nat} {o o' : Obj} (h : w.heap[b]? = some o) : (w.alloc o').heap[b]? = some o := (Below.heap_alloc _ _ _ (blk_lt h)).trans h
theorem own_low {w : World} {base : Nat} {e : TypeId} {size n k : Nat} {v : Value} {xs : List Value} (h : w.ownsRow base e size v n xs) (hk : v.ownBlock = some k) : base ≤ k := by
  rcases h.2 with ⟨rfl, _⟩ | ⟨g, cap, cur, rfl, hb, _⟩
  · simp [Value.ownBlock] at hk
  · have : g = k := by simpa [Value.ownBlock] using hk
    omega
end Go.Proofs.YtnbpgipbfejllaaDoor
/- Regions that draw their order, where loads are taken first and the operations that wait for all of them (a last store) may turn what they read: a condition on the world that holds till those come up. -/
namespace Go.Proofs.YtnbpgipbfejllaaDoor
open Go.RowKit
set_option linter.unusedVariables false

section
variable {P : Program} {md : Region.Mode} {ops : Array Oper} {Q : Exit → Act → World → Prop} {S : World → Prop} {D : List Nat}
/-- Whatever comes up next; behind it S holds, unless it is one of D. -/
def wpAnyU (P : Program) (md : Region.Mode) (ops : Array Oper) (Q : Exit → Act → World → Prop) (S : World → Prop) (D : List Nat) : Nat → Array Bool → Act → World → Prop
  | 0, listed, a, w => Region.ready md ops listed = [] ∧ Q .normal a w
  | fuel + 1, listed, a, w => (Region.ready md ops listed = [] → Q .normal a w) ∧
      ∀ i ∈ Region.ready md ops listed, wpOp P ops Q i (fun b u => (D.contains i = true ∨ S u) ∧ wpAnyU P md ops Q S D fuel (listed.setIfInBounds i true) b u) a w
theorem wpAnyU_any : ∀ (fuel : Nat) (listed : Array Bool) (a : Act) (w : World), wpAnyU P md ops Q S D fuel listed a w → wpAny P md ops Q fuel listed a w
  | 0, _, _, _, h => h
  | fuel + 1, _, _, _, h => ⟨h.1, fun i hi => wpOp_mono (fun b u k => wpAnyU_any fuel _ b u k.2) (h.2 i hi)⟩
/-- All of D that have not come up wait for i. -/
def waits (md : Region.Mode) (ops : Array Oper) (listed : Array Bool) (D : List Nat) (i : Nat) : Bool := D.all fun j => listed.getD j true || match ops[j]? with
  | some o => o.after.any fun e => Region.binds md e && e.on == i
  | none => true
theorem waits_spec {i j : Nat} {o : Oper} {listed : Array Bool} (h : waits md ops listed D i = true) (hj : D.contains j = true) (hun : listed.getD j true = false) (ho : ops[j]? = some o) : ∃ e ∈ o.after, Region.binds md e = true ∧ e.on = i := by
  have h1 := List.all_eq_true.1 h j (by simpa using hj)
  simp only [ho, hun, Bool.false_or, Array.any_eq_true', Bool.and_eq_true, beq_iff_eq] at h1
  exact h1
theorem wpAnyU_take {i : Nat} {oi : Oper} {v : Value} {fuel : Nat} {listed : Array Bool} {a : Act} {w : World} (hi : ops[i]? = some oi) (hs : Region.noSelect ops = true)
    (hf : Region.free md ops listed i = true) (hr : (Region.ready md ops listed).contains i = true) (hd : waits md ops listed D i = true) (hQ : ∀ c a w, Q (.panic c) (a.put oi.dst v) w → Q (.panic c) a w)
    (hy : YieldsIf P ops S oi v a) (hS : S w) (h : wpAnyU P md ops Q S D fuel (listed.setIfInBounds i true) (a.put oi.dst v) w) : wpAnyU P md ops Q S D (fuel + 1) listed a w := by
  have hsel := Region.noSelect_spec hs
  have main : ∀ (fuel : Nat) (listed : Array Bool) (a : Act) (w : World),
      (∀ j oj, D.contains j = true → listed.getD j true = false → ops[j]? = some oj → ∃ e ∈ oj.after, Region.binds md e = true ∧ e.on = i) →
      (∀ j oj, ops[j]? = some oj → j ≠ i → listed.getD j true = false → (∀ e ∈ oj.after, Region.binds md e = true → e.on ≠ i) → oi.apart ops oj = true) →
      i ∈ Region.ready md ops listed → YieldsIf P ops S oi v a → S w → wpAnyU P md ops Q S D fuel (listed.setIfInBounds i true) (a.put oi.dst v) w → wpAnyU P md ops Q S D (fuel + 1) listed a w := by
    intro fuel
    induction fuel with
    | zero =>
      intro listed a w _ _ hr hy hS H
      refine ⟨fun e => absurd (e ▸ hr) (by simp), fun j hj => ?_⟩
      by_cases hji : j = i
      · subst hji
        exact hy.wpOp hi hS ⟨.inr hS, H⟩
      · exact absurd (H.1 ▸ ready_mono hj hji) (by simp)
    | succ fuel ih =>
      intro listed a w hwait hfree hr hy hS H
      refine ⟨fun e => absurd (e ▸ hr) (by simp), fun j hj => ?_⟩
      by_cases hji : j = i
      · subst hji
        exact hy.wpOp hi hS ⟨.inr hS, H⟩
      · obtain ⟨hjun, oj, hoj, hall⟩ := mem_ready.1 hj
        have hno : ∀ e ∈ oj.after, Region.binds md e = true → e.on ≠ i := fun e he hb heq => by
          have h1 := hall e he hb
          have h0 := (mem_ready.1 hr).1
          rw [heq] at h1
          by_cases hlt : i < listed.size
          · simp [Array.getD, hlt] at h0 h1
            rw [h0] at h1
            cases h1
          · simp [Array.getD, hlt] at h0
        have hDj : D.contains j = false := by
          cases hc : D.contains j with
          | false => rfl
          | true =>
            obtain ⟨e, he, hb, heq⟩ := hwait j oj hc hjun hoj
            exact absurd heq (hno e he hb)
        refine wpOp_mono (fun b u k => ?_) (wpOp_putIf hoj (hfree j oj hoj hji hjun hno) (fun cs b => hsel i oi cs b hi) (fun cs b => hsel j oj cs b hoj) hQ hy (H.2 j (ready_mono hj hji)))
        obtain ⟨hyk, hSk, hk⟩ := k
        have hSu : S u := hSk.resolve_left (by rw [hDj]; simp)
        refine ⟨.inr hSu, ih (listed.setIfInBounds j true) b u (fun k ok hk hun' ho => hwait k ok hk ?_ ho) (fun k ok hk hki hun' hno' => hfree k ok hk hki ?_ hno') (ready_mono hr (Ne.symm hji)) hyk hSu ?_⟩
        · by_cases hjk : j = k
          · subst hjk
            exact hjun
          · rwa [getD_set_ne true hjk] at hun'
        · by_cases hjk : j = k
          · subst hjk
            exact hjun
          · rwa [getD_set_ne true hjk] at hun'
        · rw [Array.setIfInBounds_comm _ _ hji]
          exact hk
  exact main fuel listed a w (fun j oj hj hun ho => waits_spec hd hj hun ho) (Region.free_spec hi hf) (by simpa using hr) hy hS h
/-- One of D that yields its value in whatever world: S is asked neither of the world at hand nor behind it. -/
theorem wpAnyU_pure {i : Nat} {oi : Oper} {v : Value} {fuel : Nat} {listed : Array Bool} {a : Act} {w : World} (hi : ops[i]? = some oi) (hs : Region.noSelect ops = true)
    (hf : Region.free md ops listed i = true) (hr : (Region.ready md ops listed).contains i = true) (hd : D.contains i = true) (hQ : ∀ c a w, Q (.panic c) (a.put oi.dst v) w → Q (.panic c) a w)
    (hy : YieldsIf P ops (fun _ => True) oi v a) (h : wpAnyU P md ops Q S D fuel (listed.setIfInBounds i true) (a.put oi.dst v) w) : wpAnyU P md ops Q S D (fuel + 1) listed a w := by
  have hsel := Region.noSelect_spec hs
  have main : ∀ (fuel : Nat) (listed : Array Bool) (a : Act) (w : World),
      (∀ j oj, ops[j]? = some oj → j ≠ i → listed.getD j true = false → (∀ e ∈ oj.after, Region.binds md e = true → e.on ≠ i) → oi.apart ops oj = true) →
      i ∈ Region.ready md ops listed → YieldsIf P ops (fun _ => True) oi v a → wpAnyU P md ops Q S D fuel (listed.setIfInBounds i true) (a.put oi.dst v) w → wpAnyU P md ops Q S D (fuel + 1) listed a w := by
    intro fuel
    induction fuel with
    | zero =>
      intro listed a w _ hr hy H
      refine ⟨fun e => absurd (e ▸ hr) (by simp), fun j hj => ?_⟩
      by_cases hji : j = i
      · subst hji
        exact hy.wpOp hi trivial ⟨.inl hd, H⟩
      · exact absurd (H.1 ▸ ready_mono hj hji) (by simp)
    | succ fuel ih =>
      intro listed a w hfree hr hy H
      refine ⟨fun e => absurd (e ▸ hr) (by simp), fun j hj => ?_⟩
      by_cases hji : j = i
      · subst hji
        exact hy.wpOp hi trivial ⟨.inl hd, H⟩
      · obtain ⟨hjun, oj, hoj, hall⟩ := mem_ready.1 hj
        have hno : ∀ e ∈ oj.after, Region.binds md e = true → e.on ≠ i := fun e he hb heq => by
          have h1 := hall e he hb
          have h0 := (mem_ready.1 hr).1
          rw [heq] at h1
          by_cases hlt : i < listed.size
          · simp [Array.getD, hlt] at h0 h1
            rw [h0] at h1
            cases h1
          · simp [Array.getD, hlt] at h0
        refine wpOp_mono (fun b u k => ?_) (wpOp_putIf hoj (hfree j oj hoj hji hjun hno) (fun cs b => hsel i oi cs b hi) (fun cs b => hsel j oj cs b hoj) hQ hy (H.2 j (ready_mono hj hji)))
        obtain ⟨hyk, hSk, hk⟩ := k
        refine ⟨hSk, ih (listed.setIfInBounds j true) b u (fun k ok hk hki hun' hno' => hfree k ok hk hki ?_ hno') (ready_mono hr (Ne.symm hji)) hyk ?_⟩
        · by_cases hjk : j = k
          · subst hjk
            exact hjun
          · rwa [getD_set_ne true hjk] at hun'
        · rw [Array.setIfInBounds_comm _ _ hji]
          exact hk
  exact main fuel listed a w (Region.free_spec hi hf) (by simpa using hr) hy h
theorem wpAnyU_done {listed : Array Bool} {a : Act} {w : World} (hr : Region.ready md ops listed = []) (h : Q .normal a w) : ∀ fuel, wpAnyU P md ops Q S D fuel listed a w
  | 0 => ⟨hr, h⟩
  | _ + 1 => ⟨fun _ => h, by rw [hr]; simp⟩
def AllReadyU (P : Program) (md : Region.Mode) (ops : Array Oper) (Q : Exit → Act → World → Prop) (S : World → Prop) (D : List Nat) (fuel : Nat) (listed : Array Bool) (a : Act) (w : World) (rs : List Nat) : Prop :=
  ∀ i ∈ rs, wpOp P ops Q i (fun b u => (D.contains i = true ∨ S u) ∧ wpAnyU P md ops Q S D fuel (listed.setIfInBounds i true) b u) a w
theorem AllReadyU.nil {fuel : Nat} {listed : Array Bool} {a : Act} {w : World} : AllReadyU P md ops Q S D fuel listed a w [] := fun _ h => by cases h
/-- One that comes up, S being shown anew behind it. -/
theorem AllReadyU.cons {fuel : Nat} {listed : Array Bool} {a : Act} {w : World} {i : Nat} {o : Oper} {rs : List Nat} (ho : ops[i]? = some o)
    (h : ∀ K' : Act → World → Prop, Shut (∀ b u, S u → (S u → wpAnyU P md ops Q S D fuel (listed.setIfInBounds i true) b u) → K' b u) → if Region.wanted o (yielded ops a.tmps) = true then Oper.wp P o a w K' Q else K' (a.put o.dst undef) w)
    (hs : AllReadyU P md ops Q S D fuel listed a w rs) : AllReadyU P md ops Q S D fuel listed a w (i :: rs) := fun j hj => by
  rcases List.mem_cons.1 hj with rfl | hj
  · exact wpOp_step ho (fun K' hK => h K' (fun b u hS hW => hK b u ⟨.inr hS, hW hS⟩))
  · exact hs j hj
/-- One of D that comes up: S is not asked behind it. -/
theorem AllReadyU.last {fuel : Nat} {listed : Array Bool} {a : Act} {w : World} {i : Nat} {o : Oper} {rs : List Nat} (ho : ops[i]? = some o) (hD : D.contains i = true)
    (h : ∀ K' : Act → World → Prop, Shut (∀ b u, wpAnyU P md ops Q S D fuel (listed.setIfInBounds i true) b u → K' b u) → if Region.wanted o (yielded ops a.tmps) = true then Oper.wp P o a w K' Q else K' (a.put o.dst undef) w)
    (hs : AllReadyU P md ops Q S D fuel listed a w rs) : AllReadyU P md ops Q S D fuel listed a w (i :: rs) := fun j hj => by
  rcases List.mem_cons.1 hj with rfl | hj
  · exact wpOp_step ho (fun K' hK => h K' (fun b u hW => hK b u ⟨.inl hD, hW⟩))
  · exact hs j hj
theorem wpAnyU_ready {rs : List Nat} {fuel : Nat} {listed : Array Bool} {a : Act} {w : World} (hr : Region.ready md ops listed = rs) (hne : rs ≠ []) (h : AllReadyU P md ops Q S D fuel listed a w rs) :
    wpAnyU P md ops Q S D (fuel + 1) listed a w := ⟨fun e => absurd (hr ▸ e) hne, hr ▸ h⟩
/-- How many have not come up. -/
def left (l : Array Bool) : Nat := l.toList.count false
theorem count_set : ∀ (l : List Bool) (i : Nat), l[i]? = some false → (l.set i true).count false + 1 = l.count false
  | [], _, h => by simp at h
  | x :: l, 0, h => by
    obtain rfl : x = false := by simpa using h
    simp
  | x :: l, i + 1, h => by
    have := count_set l i (by simpa using h)
    rw [List.set_cons_succ, List.count_cons, List.count_cons]
    omega
theorem left_set {l : Array Bool} {i : Nat} (h : l.getD i true = false) : left (l.setIfInBounds i true) + 1 = left l := by
  unfold left
  rw [Array.toList_setIfInBounds]
  refine count_set _ _ ?_
  rw [Array.getElem?_toList]
  rw [Array.getD_eq_getD_getElem?] at h
  cases hi : l[i]? with
  | none => rw [hi] at h; cases h
  | some b => rw [hi] at h; exact congrArg some h
/-- A region whose operations come up in so many orders that one cannot go through them: what holds behind those that have come up, whichever they are, till those of lE have. -/
theorem wpAnyU_inv (lE : Array Bool) (I : Array Bool → Act → World → Prop) (hS : ∀ l a w, I l a w → S w) (hstep : ∀ l a w i, I l a w → l ≠ lE → i ∈ Region.ready md ops l → wpOp P ops Q i (fun b u => I (l.setIfInBounds i true) b u) a w)
    (hne : ∀ l a w, I l a w → l ≠ lE → Region.ready md ops l ≠ []) (hend : ∀ k a w, I lE a w → wpAnyU P md ops Q S D (k + left lE) lE a w) : ∀ (fuel : Nat) (l : Array Bool) (a : Act) (w : World), left l ≤ fuel → I l a w → wpAnyU P md ops Q S D fuel l a w
  | fuel, l, a, w, hl, hI => by
    by_cases hlr : l = lE
    · subst hlr
      have := hend (fuel - left l) a w hI
      rwa [show fuel - left l + left l = fuel by omega] at this
    · cases fuel with
      | zero =>
        cases hr : Region.ready md ops l with
        | nil => exact absurd hr (hne l a w hI hlr)
        | cons j r =>
          have := left_set (mem_ready.1 (hr ▸ List.mem_cons_self : j ∈ Region.ready md ops l)).1
          omega
      | succ fuel => exact ⟨fun e => absurd e (hne l a w hI hlr), fun i hi => wpOp_mono (fun b u k => ⟨.inr (hS _ _ _ k), wpAnyU_inv lE I hS hstep hne hend fuel _ b u (by have := left_set (mem_ready.1 hi).1; omega) k⟩) (hstep l a w i hI hlr hi)⟩
theorem ready_dep {l : Array Bool} {i : Nat} {o : Oper} (h : i ∈ Region.ready md ops l) (ho : ops[i]? = some o) (k : Nat) (hk : (o.after.any fun e => Region.binds md e && e.on == k) = true) : l.getD k false = true := by
  obtain ⟨_, o', ho', hall⟩ := mem_ready.1 h
  obtain rfl : o = o' := Option.some.inj (ho.symm.trans ho')
  simp only [Array.any_eq_true', Bool.and_eq_true, beq_iff_eq] at hk
  obtain ⟨e, he, hb, rfl⟩ := hk
  exact hall e he hb
theorem ready_nil {l : Array Bool} {i : Nat} {o : Oper} (h : Region.ready md ops l = []) (hl : l.getD i true = false) (ho : ops[i]? = some o) (ha : (o.after.all fun e => l.getD e.on false) = true) : False := by
  have : i ∈ Region.ready md ops l := mem_ready.2 ⟨hl, o, ho, fun e he _ => by
    rw [Array.all_eq_true_iff_forall_mem] at ha
    exact ha e he⟩
  rw [h] at this
  cases this
/-- S may grow on the way. -/
theorem wpAnyU_more {S2 : World → Prop} (hS : ∀ w, S2 w → S w) : ∀ (fuel : Nat) (listed : Array Bool) (a : Act) (w : World), wpAnyU P md ops Q S2 D fuel listed a w → wpAnyU P md ops Q S D fuel listed a w
  | 0, _, _, _, h => h
  | fuel + 1, _, _, _, h => ⟨h.1, fun i hi => wpOp_mono (fun b u k => ⟨k.1.imp id (hS _), wpAnyU_more hS fuel _ b u k.2⟩) (h.2 i hi)⟩
end
/-- The beginning of a region that draws. -/
theorem wp_region_drewU {P : Program} {ops : Array Oper} {Q : Exit → Act → World → Prop} (S : World → Prop) (D : List Nat) {id : Nat} {a : Act} {w : World} (hm : P.follows .mixedOrders = true) (hS : S w.drew)
    (h : S w.drew → wpAnyU P .any ops Q S D ops.size (Array.replicate ops.size false) a w.drew) : (Code.region id ops true).wp P Q a w :=
  wp_region_any hm (wpAnyU_any _ _ _ _ (h hS))
end Go.Proofs.YtnbpgipbfejllaaDoor
/- facsimileref04: Mod and the numbers that are read one after the other. -/
namespace Go.Proofs.YtnbpgipbfejllaaDoor
open Go.RowKit
set_option linter.unusedVariables false

theorem mod_any (a m : Int) (hm : 1 ≤ m ∧ m ≤ 1000000) : ∃ r : Int, (0 ≤ r ∧ r < m) ∧ ∀ w : World,
    Calls Tryd.prog 35 #[.int .i64 a, .int .i64 m] w fun e w' => e = .returned (.int .i64 r) ∧ w = w' := by
  have h1 : a.tmod m < m := Int.tmod_lt_of_pos a (by omega)
  have h2 : -m < a.tmod m := Int.lt_tmod_of_pos a (by omega)
  obtain ⟨r, hr⟩ : ∃ r, a.tmod m = r := ⟨_, rfl⟩
  rw [hr] at h1 h2
  have hm0 : m ≠ 0 := by omega
  have hmz : (m == 0) = false := by simpa using hm0
  by_cases h : r < 0
  · refine ⟨r + m, by omega, fun w => ?_⟩
    have hb : decide (r < 0) = true := by simpa using h
    go_enter Tryd.func35, Tryd.ntmps35
    go_wp2
    go_ret
    exact ⟨rfl, rfl⟩
  · refine ⟨r, by omega, fun w => ?_⟩
    have hb : decide (r < 0) = false := by simpa using h
    go_enter Tryd.func35, Tryd.ntmps35
    go_wp2
    go_ret
    exact ⟨rfl, rfl⟩

/-- Numbers, whose list lies below n0 and who themselves lie above. -/
def NU (n0 : Nat) (w : World) (p : Nat) : Prop := ∃ (AL : Option Addr) (nl cl : Nat) (xs : List Int) (k : Nat), w.heap[p]? = some (.cells #[.slice AL nl cl, .int .i64 (k : Int)] 125 (0, 0)) ∧ k ≤ nl ∧ nl ≤ 140737488351232 ∧ IntsAt w AL nl xs ∧ (0 < nl → ∀ b, AL = some b → b.block < n0) ∧ n0 ≤ p
theorem NU.lt {n0 p : Nat} {w : World} (h : NU n0 w p) : p < w.heap.size := let ⟨_, _, _, _, _, hb, _⟩ := h; blk_lt hb
theorem NU.base {n0 p : Nat} {w : World} (h : NU n0 w p) : n0 ≤ p := let ⟨_, _, _, _, _, _, _, _, _, _, hb⟩ := h; hb
theorem NU.keep {n0 p : Nat} {w w' : World} {F : Nat → Prop} (h : NU n0 w p) (hk : Keep F w w') (hF : ¬ F p) (hn : ∀ k, F k → n0 ≤ k) : NU n0 w' p := by
  obtain ⟨AL, nl, cl, xs, k, hb, h1, h2, h3, h4, h5⟩ := h
  refine ⟨AL, nl, cl, xs, k, (hk.block p (blk_lt hb) hF).trans hb, h1, h2, ?_, h4, h5⟩
  by_cases h0 : nl = 0
  · subst h0
    have e := List.eq_nil_of_length_eq_zero h3.1
    unfold IntsAt
    rw [e]
    exact CellsAt.nil _ _
  · exact h3.keep hk (fun b e hf => by have := hn _ hf; have := h4 (by omega) b e; omega)
set_option maxHeartbeats 2000000 in
theorem next_any {n0 p : Nat} {w : World} (h : NU n0 w p) (n : Int) (hn : 1 ≤ n ∧ n ≤ 1000000) :
    Calls Tryd.prog 73 #[.pointer (some ⟨p, 0, none⟩), .int .i64 n] w fun e w' => ∃ r : Int, e = .returned (.int .i64 r) ∧ (0 ≤ r ∧ r < n) ∧ NU n0 w' p ∧ Keep (fun k => k = p) w w' := by
  have H := Lib.hid h
  obtain ⟨AL, nl, cl, xs, k, hb, h1, h2, h3, h4, h5⟩ := h
  have c0 : w.cell? ⟨p, 0, none⟩ = some (.slice AL nl cl) := by rw [blk_cell hb]; rfl
  have c1 : w.cell? ⟨p, 1, none⟩ = some (.int .i64 (k : Int)) := by rw [blk_cell hb]; rfl
  have f1 : w.frozen? ⟨p, 1, none⟩ = false := blk_free hb 1
  have hn1 : decide (n < 1) = false := by simp; omega
  have HB := Lib.hid hb
  have H3 := Lib.hid h3
  have H4 := Lib.hid h4
  clear hb h3 h4
  by_cases hk : k < nl
  · have hb1 : decide (nl ≤ k) = false := by simp; omega
    obtain ⟨bf, of, rfl, x0⟩ := H3.out.at_ k hk
    obtain ⟨a, ha⟩ : ∃ a, xs.getD k 0 = a := ⟨_, rfl⟩
    rw [ha] at x0
    have hne : bf ≠ p := by have := H4.out (by omega) _ rfl; simp only at this; omega
    go_enter Tryd.func73, Tryd.ntmps73
    go_wp2_with fail
    go_quiet (fail)
    go_wp2_with fail
    have hk0 := keep_set (Keep.mono (keep_drewN (fun _ => False) w nq) (F' := fun k => k = p) (fun _ => False.elim)) 1 (.int .i64 ((k : Int) + 1))
    have hb2 := blk_set (w := w.drewN nq) HB.out 1 (.int .i64 ((k : Int) + 1))
    obtain ⟨W, hW⟩ : ∃ W, (w.drewN nq).setCell ⟨p, 1, none⟩ (.int .i64 ((k : Int) + 1)) = W := ⟨_, rfl⟩
    rw [hW] at hk0 hb2 ⊢
    have d0 : W.cell? ⟨p, 0, none⟩ = some (.slice (some ⟨bf, of, none⟩) nl cl) := by rw [blk_cell hb2]; rfl
    have d1 : W.cell? ⟨p, 1, none⟩ = some (.int .i64 ((k : Int) + 1)) := by rw [blk_cell hb2]; rfl
    have y0 : W.cell? ⟨bf, of + k, none⟩ = some (.int .i64 a) := cell_kept hk0 x0 hne
    have hI := H3.out.keep hk0 (fun b e hf => by cases e; exact hne hf)
    have HP := Lib.hid (show NU n0 W p from ⟨_, nl, cl, xs, k + 1, hb2, by omega, h2, hI, H4.out, h5⟩)
    have HK := Lib.hid hk0
    obtain ⟨r, hr, hM⟩ := mod_any a n hn
    have HM := Lib.hid hM
    clear hk0 hb2 hW hI hM x0 c0 c1 f1
    go_quiet (first | (go_at_call 35; exact quiet_l (HM.out _)))
    go_wp2_with fail
    go_ret
    exact ⟨r, rfl, hr, HP.out.keep (F := fun _ => False) (keep_drewN _ _ _) id (fun _ => False.elim), Keep.trans HK.out (keep_drewN _ _ _)⟩
  · obtain rfl : k = nl := by omega
    have hb1 : decide (k ≤ k) = true := by simp
    go_enter Tryd.func73, Tryd.ntmps73
    go_wp2_with fail
    go_quiet (fail)
    go_wp2_with fail
    go_ret
    exact ⟨0, rfl, by omega, H.out.keep (F := fun _ => False) (keep_drewN _ _ _) id (fun _ => False.elim), keep_drewN _ _ _⟩
end Go.Proofs.YtnbpgipbfejllaaDoor
/- graph: traces as plain data, and as they lie in memory. -/
namespace Go.Proofs.YtnbpgipbfejllaaDoor
open Go.RowKit
set_option linter.unusedVariables false
set_option linter.unusedSimpArgs false

/-- Rows of elements of several cells. -/
def rowG {α : Type} (f : α → List Value) : List α → List Value
  | [] => []
  | a :: l => f a ++ rowG f l
section
variable {α : Type} {f : α → List Value} {m : Nat}
theorem rowG_length (h : ∀ a, (f a).length = m) : ∀ l : List α, (rowG f l).length = l.length * m
  | [] => by simp [rowG]
  | a :: l => by rw [rowG, List.length_append, h, rowG_length h l, List.length_cons, Nat.succ_mul]; omega
theorem rowG_append : ∀ l k : List α, rowG f (l ++ k) = rowG f l ++ rowG f k
  | [], _ => rfl
  | a :: l, k => by rw [List.cons_append, rowG, rowG, rowG_append l k, List.append_assoc]
theorem rowG_one (a : α) : rowG f [a] = f a := by rw [rowG, rowG, List.append_nil]
theorem rowG_at (h : ∀ a, (f a).length = m) (d : α) : ∀ (l : List α) (k i : Nat), k < l.length → i < m → (rowG f l)[k * m + i]? = some ((f (l.getD k d)).getD i undef)
  | [], _, _, hk, _ => by simp at hk
  | a :: l, 0, i, _, hi => by
    rw [rowG, Nat.zero_mul, Nat.zero_add, List.getElem?_append_left (by rw [h]; exact hi)]
    rw [List.getD_cons_zero, List.getD_eq_getElem?_getD, List.getElem?_eq_getElem (by rw [h]; exact hi)]
    rfl
  | a :: l, k + 1, i, hk, hi => by
    have e : (k + 1) * m + i - m = k * m + i := by rw [Nat.succ_mul]; omega
    rw [rowG, List.getElem?_append_right (by rw [h, Nat.succ_mul]; omega), h, e, rowG_at h d l k i (by simpa using hk) hi]
    rfl
theorem rowG_mem {l : List α} {u : Value} (hu : u ∈ rowG f l) : ∃ a ∈ l, u ∈ f a := by
  induction l with
  | nil => simp [rowG] at hu
  | cons a l ih =>
    rw [rowG] at hu
    rcases List.mem_append.1 hu with h | h
    · exact ⟨a, .head _, h⟩
    · obtain ⟨b, hb, h⟩ := ih h
      exact ⟨b, .tail _ hb, h⟩
end
/-- Cells that lie in a block of a type. -/
def Lies (w : World) (A : Option Addr) (n : Nat) (xs : List Value) (t : TypeId) : Prop := CellsAt w A n xs ∧ (0 < n → ∃ g o cur, A = some ⟨g, o, none⟩ ∧ w.heap[g]? = some (.cells cur t (0, 0)))
theorem Lies.nil (w : World) (A : Option Addr) (t : TypeId) : Lies w A 0 [] t := ⟨CellsAt.nil _ _, fun h => absurd h (by omega)⟩
theorem Lies.keep {w w' : World} {A : Option Addr} {n : Nat} {xs : List Value} {t : TypeId} {F : Nat → Prop} (h : Lies w A n xs t) (hk : Keep F w w') (hF : ∀ g cur, w.heap[g]? = some (.cells cur t (0, 0)) → ¬ F g) : Lies w' A n xs t := by
  obtain ⟨h1, h2⟩ := h
  by_cases h0 : n = 0
  · subst h0
    have : xs = [] := List.eq_nil_of_length_eq_zero h1.1
    subst this
    exact Lies.nil _ _ _
  · obtain ⟨g, o, cur, rfl, hg⟩ := h2 (by omega)
    refine ⟨h1.keep hk (fun b e => ?_), fun _ => ⟨g, o, cur, rfl, (hk.block g (blk_lt hg) (hF g cur hg)).trans hg⟩⟩
    cases e
    exact hF g cur hg
theorem Lies.since {w w' : World} {A : Option Addr} {n : Nat} {xs : List Value} {t : TypeId} (h : Lies w A n xs t) (hk : Since w.heap.size w w') : Lies w' A n xs t := h.keep hk (fun g cur hg hf => by have := blk_lt hg; omega)
theorem Lies.quiet {w w' : World} {A : Option Addr} {n : Nat} {xs : List Value} {t : TypeId} (h : Lies w A n xs t) (hk : Keep (fun _ => False) w w') : Lies w' A n xs t := h.keep hk (fun _ _ _ => id)
theorem Lies.new (w : World) (cs : List Value) (t : TypeId) (h : cs.length ≤ 9223372036854775807) : Lies (w.alloc (.cells cs.toArray t)) (some ⟨w.heap.size, 0, none⟩) cs.length cs t :=
  ⟨cells_new w cs t h, fun _ => ⟨_, 0, _, rfl, heap_alloc_new w _⟩⟩
/-- An owned row lies. -/
theorem Lies.own {w : World} {base n m : Nat} {t : TypeId} {A : Option Addr} {c : Nat} {xs : List Value} (h : w.ownsRow base t m (.slice A n c) n xs) (hm : 0 < m) (hb : n * m ≤ 9223372036854775807) : Lies w A (n * m) xs t := by
  obtain ⟨hl, h0 | ⟨g, cap, cur, e, hg, hh, hc, _, hs, hx⟩⟩ := h
  · obtain ⟨_, rfl⟩ := h0
    rw [Nat.zero_mul] at hl ⊢
    have : xs = [] := List.eq_nil_of_length_eq_zero hl
    subst this
    exact Lies.nil _ _ _
  · injection e with e1 _ _
    subst e1
    refine ⟨⟨hl, hb, fun h0 => ⟨g, 0, rfl, blk_lt hh, fun j hj => ?_⟩⟩, fun _ => ⟨g, 0, cur, rfl, hh⟩⟩
    have h3 := congrArg (fun l => l[j]?) hx
    rw [List.getElem?_take_of_lt (by omega)] at h3
    rw [Nat.zero_add, blk_cell hh, ← Array.getElem?_toList, h3]

/-- An instruction. -/
structure TI where
  op : Int
  a : Int
  b : Int
  c : Int
  n : Int
  args : List Int
  kk : Int
  kn : Int
  ks : Bytes
  names : List Bytes
  pf : Int
  pl : Int
  ex : Int
  once : Bool
structure RI where
  x : TI
  A : Option Addr
  ca : Nat
  N : Option Addr
  cn : Nat
def RI.cells (r : RI) : List Value := [.int .i64 r.x.op, .int .i64 r.x.a, .int .i64 r.x.b, .int .i64 r.x.c, .int .i64 r.x.n, .slice r.A r.x.args.length r.ca, .int .i64 r.x.kk, .int .i64 r.x.kn, .string (sb r.x.ks), .slice r.N r.x.names.length r.cn, .int .i64 r.x.pf, .int .i64 r.x.pl, .int .i64 r.x.ex, .bool r.x.once]
def TI.zero : TI := ⟨0, 0, 0, 0, 0, [], 0, 0, [], [], 0, 0, 0, false⟩
def RI.dflt : RI := ⟨TI.zero, none, 0, none, 0⟩
theorem RI.cells_length (r : RI) : r.cells.length = 14 := rfl
def RI.Fits (w : World) (r : RI) : Prop := Lies w r.A r.x.args.length (ints r.x.args) 3 ∧ Lies w r.N r.x.names.length (strs r.x.names) 9
abbrev rowI (R : List RI) : List Value := rowG RI.cells R
/-- A frame of an exit. -/
structure TF where
  fn : Int
  ln : Int
  vars : List Int
structure RF where
  x : TF
  A : Option Addr
  c : Nat
def RF.cells (r : RF) : List Value := [.int .i64 r.x.fn, .int .i64 r.x.ln, .slice r.A r.x.vars.length r.c]
def RF.dflt : RF := ⟨⟨0, 0, []⟩, none, 0⟩
theorem RF.cells_length (r : RF) : r.cells.length = 3 := rfl
def RF.Fits (w : World) (r : RF) : Prop := Lies w r.A r.x.vars.length (ints r.x.vars) 3
abbrev rowF (R : List RF) : List Value := rowG RF.cells R
/-- An exit (without objects). -/
structure TX where
  frames : List TF
  back : Int
structure RX where
  x : TX
  A : Option Addr
  c : Nat
  F : List RF
def RX.cells (r : RX) : List Value := [.slice r.A r.F.length r.c, .slice none 0 0, .int .i64 r.x.back]
def RX.dflt : RX := ⟨⟨[], 0⟩, none, 0, []⟩
theorem RX.cells_length (r : RX) : r.cells.length = 3 := rfl
def RX.Fits (w : World) (r : RX) : Prop := Lies w r.A (r.F.length * 3) (rowF r.F) 95 ∧ (∀ f ∈ r.F, f.Fits w) ∧ r.F.map (·.x) = r.x.frames
abbrev rowX (R : List RX) : List Value := rowG RX.cells R
structure TR where
  pf : Int
  pl : Int
  ins : List TI
  exits : List TX
section
variable {w w' : World} {F : Nat → Prop}
theorem RI.Fits.keep {r : RI} (h : r.Fits w) (hk : Keep F w w') (h1 : ∀ g cur, w.heap[g]? = some (.cells cur 3 (0, 0)) → ¬ F g) (h2 : ∀ g cur, w.heap[g]? = some (.cells cur 9 (0, 0)) → ¬ F g) : r.Fits w' := ⟨h.1.keep hk h1, h.2.keep hk h2⟩
theorem RF.Fits.keep {r : RF} (h : r.Fits w) (hk : Keep F w w') (h1 : ∀ g cur, w.heap[g]? = some (.cells cur 3 (0, 0)) → ¬ F g) : r.Fits w' := Lies.keep h hk h1
theorem RX.Fits.keep {r : RX} (h : r.Fits w) (hk : Keep F w w') (h1 : ∀ g cur, w.heap[g]? = some (.cells cur 3 (0, 0)) → ¬ F g) (h2 : ∀ g cur, w.heap[g]? = some (.cells cur 95 (0, 0)) → ¬ F g) : r.Fits w' := ⟨h.1.keep hk h2, fun f hf => (h.2.1 f hf).keep hk h1, h.2.2⟩
end
/-- A trace, as a value. -/
structure TraceAt (w : World) (v : Value) (T : TR) : Prop where
  ex : ∃ (A : Option Addr) (ca : Nat) (E : Option Addr) (ce : Nat) (R : List RI) (X : List RX), v = .agg #[.int .i64 T.pf, .int .i64 T.pl, .slice A R.length ca, .slice E X.length ce] ∧
    Lies w A (R.length * 14) (rowI R) 60 ∧ Lies w E (X.length * 3) (rowX X) 83 ∧ (∀ r ∈ R, r.Fits w) ∧ (∀ r ∈ X, r.Fits w) ∧ R.map (·.x) = T.ins ∧ X.map (·.x) = T.exits ∧ (∀ a, A = some a → a = ⟨a.block, 0, none⟩) ∧ (∀ a, E = some a → a = ⟨a.block, 0, none⟩)
theorem TraceAt.since {w w' : World} {v : Value} {T : TR} (h : TraceAt w v T) (hk : Since w.heap.size w w') : TraceAt w' v T := by
  obtain ⟨A, ca, E, ce, R, X, h0, h1, h2, h3, h4, h5, h6⟩ := h
  have hn : ∀ (t : TypeId) g cur, w.heap[g]? = some (.cells cur t (0, 0)) → ¬ w.heap.size ≤ g := fun t g cur hg hf => by have := blk_lt hg; omega
  exact ⟨A, ca, E, ce, R, X, h0, h1.since hk, h2.since hk, fun r hr => (h3 r hr).keep hk (hn _) (hn _), fun r hr => (h4 r hr).keep hk (hn _) (hn _), h5, h6⟩
theorem TraceAt.quiet {w w' : World} {v : Value} {T : TR} (h : TraceAt w v T) (hk : Keep (fun _ => False) w w') : TraceAt w' v T := h.since (Since.of hk)
end Go.Proofs.YtnbpgipbfejllaaDoor
/- graph: the builder of facsimileref16, in memory. -/
namespace Go.Proofs.YtnbpgipbfejllaaDoor
open Go.RowKit
set_option linter.unusedVariables false
set_option linter.unusedSimpArgs false

/-- The blocks of a builder. -/
def bfoot (p m : Nat) (vA vE : Value) (k : Nat) : Prop := k = p ∨ k = m ∨ vA.ownBlock = some k ∨ vE.ownBlock = some k
structure BDat (n : Nat) (w0 : World) (p m : Nat) (T : TR) (fu pa : Int) (C : List (Nat × Obj)) (w : World) (A : Option Addr) (ca : Nat) (E : Option Addr) (ce : Nat) (R : List RI) (X : List RX) : Prop where
  hdr : w.heap[p]? = some (.cells #[.pointer (some ⟨m, 0, none⟩), .int .i64 T.pf, .int .i64 T.pl, .slice A R.length ca, .slice E X.length ce, .int .i64 fu, .int .i64 pa] 127 (0, 0))
  num : NU n w m
  rowA : w.ownsRow n 60 14 (.slice A R.length ca) R.length (rowI R)
  rowE : w.ownsRow n 83 3 (.slice E X.length ce) X.length (rowX X)
  fitR : ∀ r ∈ R, r.Fits w
  fitX : ∀ r ∈ X, r.Fits w
  ins : R.map (·.x) = T.ins
  exits : X.map (·.x) = T.exits
  since : Since n w0 w
  low : n ≤ p
  base : n ≤ w0.heap.size
  objs : ∀ x ∈ C, w.heap[x.1]? = some x.2 ∧ ¬ bfoot p m (.slice A R.length ca) (.slice E X.length ce) x.1
def BD (n : Nat) (w0 : World) (p m : Nat) (T : TR) (fu pa : Int) (C : List (Nat × Obj)) (w : World) : Prop := ∃ A ca E ce R X, BDat n w0 p m T fu pa C w A ca E ce R X
section
variable {n : Nat} {w0 w w' : World} {p m : Nat} {T : TR} {fu pa : Int} {C : List (Nat × Obj)} {A : Option Addr} {ca : Nat} {E : Option Addr} {ce : Nat} {R : List RI} {X : List RX}
theorem NU.obj {n0 p : Nat} {w : World} (h : NU n0 w p) : ∃ cur, w.heap[p]? = some (.cells cur 125 (0, 0)) := let ⟨_, _, _, _, _, hb, _⟩ := h; ⟨_, hb⟩
theorem bfoot_type (h : BDat n w0 p m T fu pa C w A ca E ce R X) {k : Nat} (hk : bfoot p m (.slice A R.length ca) (.slice E X.length ce) k) : ∃ cur t, w.heap[k]? = some (.cells cur t (0, 0)) ∧ (t = 127 ∨ t = 125 ∨ t = 60 ∨ t = 83) := by
  rcases hk with rfl | rfl | e | e
  · exact ⟨_, _, h.hdr, .inl rfl⟩
  · obtain ⟨cur, hc⟩ := h.num.obj
    exact ⟨_, _, hc, .inr (.inl rfl)⟩
  · obtain ⟨cur, hc⟩ := own_type h.rowA e
    exact ⟨_, _, hc, .inr (.inr (.inl rfl))⟩
  · obtain ⟨cur, hc⟩ := own_type h.rowE e
    exact ⟨_, _, hc, .inr (.inr (.inr rfl))⟩
theorem bfoot_lt (h : BDat n w0 p m T fu pa C w A ca E ce R X) {k : Nat} (hk : bfoot p m (.slice A R.length ca) (.slice E X.length ce) k) : n ≤ k ∧ k < w.heap.size := by
  obtain ⟨cur, t, hc, _⟩ := bfoot_type h hk
  refine ⟨?_, blk_lt hc⟩
  rcases hk with rfl | rfl | e | e
  · exact h.low
  · exact h.num.base
  · exact (h.rowA.lt k e).1
  · exact (h.rowE.lt k e).1
theorem bfoot_other (h : BDat n w0 p m T fu pa C w A ca E ce R X) {t : TypeId} (ht : t ≠ 127 ∧ t ≠ 125 ∧ t ≠ 60 ∧ t ≠ 83) : ∀ g cur, w.heap[g]? = some (.cells cur t (0, 0)) → ¬ bfoot p m (.slice A R.length ca) (.slice E X.length ce) g := by
  intro g cur hg hf
  obtain ⟨cur', t', hc, h4⟩ := bfoot_type h hf
  rw [hg] at hc
  injection hc with hc
  injection hc with _ e
  subst e
  rcases h4 with e | e | e | e
  · exact ht.1 e
  · exact ht.2.1 e
  · exact ht.2.2.1 e
  · exact ht.2.2.2 e
/-- What a step on the builder's own blocks leaves. -/
theorem BDat.turn (h : BDat n w0 p m T fu pa C w A ca E ce R X) {F : Nat → Prop} (hk : Keep F w w') (hF : ∀ k, F k → bfoot p m (.slice A R.length ca) (.slice E X.length ce) k ∨ w.heap.size ≤ k)
    {T' : TR} {fu' pa' : Int} {A' : Option Addr} {ca' : Nat} {E' : Option Addr} {ce' : Nat} {R' : List RI} {X' : List RX}
    (hdr : w'.heap[p]? = some (.cells #[.pointer (some ⟨m, 0, none⟩), .int .i64 T'.pf, .int .i64 T'.pl, .slice A' R'.length ca', .slice E' X'.length ce', .int .i64 fu', .int .i64 pa'] 127 (0, 0)))
    (num : NU n w' m) (rowA : w'.ownsRow n 60 14 (.slice A' R'.length ca') R'.length (rowI R')) (rowE : w'.ownsRow n 83 3 (.slice E' X'.length ce') X'.length (rowX X'))
    (fitR : ∀ r ∈ R', r ∈ R ∨ r.Fits w') (fitX : ∀ r ∈ X', r ∈ X ∨ r.Fits w') (ins : R'.map (·.x) = T'.ins) (exits : X'.map (·.x) = T'.exits)
    (hA : ∀ k, (Value.slice A' R'.length ca').ownBlock = some k → (Value.slice A R.length ca).ownBlock = some k ∨ w.heap.size ≤ k) (hE : ∀ k, (Value.slice E' X'.length ce').ownBlock = some k → (Value.slice E X.length ce).ownBlock = some k ∨ w.heap.size ≤ k) :
    BDat n w0 p m T' fu' pa' C w' A' ca' E' ce' R' X' := by
  have hty : ∀ t : TypeId, (t ≠ 127 ∧ t ≠ 125 ∧ t ≠ 60 ∧ t ≠ 83) → ∀ g cur, w.heap[g]? = some (.cells cur t (0, 0)) → ¬ F g := by
    intro t ht g cur hg hf
    rcases hF g hf with h1 | h1
    · exact bfoot_other h ht g cur hg h1
    · have := blk_lt hg; omega
  have h1 := hty 3 (by decide)
  have h2 := hty 9 (by decide)
  have h3 := hty 95 (by decide)
  have hb : n ≤ w.heap.size := Nat.le_trans h.base h.since.size
  refine ⟨hdr, num, rowA, rowE, fun r hr => ?_, fun r hr => ?_, ins, exits, ?_, h.low, h.base, fun x hx => ?_⟩
  · rcases fitR r hr with e | e
    · exact (h.fitR r e).keep hk h1 h2
    · exact e
  · rcases fitX r hr with e | e
    · exact (h.fitX r e).keep hk h1 h3
    · exact e
  · refine Keep.trans h.since (Keep.mono hk (fun k hf => ?_))
    rcases hF k hf with e | e
    · exact (bfoot_lt h e).1
    · omega
  · obtain ⟨a, b⟩ := h.objs x hx
    have hx1 := blk_lt a
    refine ⟨(hk.block _ hx1 (fun hf => ?_)).trans a, fun hf => ?_⟩
    · rcases hF _ hf with e | e
      · exact b e
      · omega
    · rcases hf with e | e | e | e
      · exact b (.inl e)
      · exact b (.inr (.inl e))
      · rcases hA _ e with e | e
        · exact b (.inr (.inr (.inl e)))
        · omega
      · rcases hE _ e with e | e
        · exact b (.inr (.inr (.inr e)))
        · omega
/-- What happens elsewhere. -/
theorem BDat.away (h : BDat n w0 p m T fu pa C w A ca E ce R X) {F : Nat → Prop} (hk : Keep F w w') (hF : ∀ k, F k → w.heap.size ≤ k) : BDat n w0 p m T fu pa C w' A ca E ce R X := by
  have hn : ∀ k, bfoot p m (.slice A R.length ca) (.slice E X.length ce) k → ¬ F k := fun k hf hh => by have := (bfoot_lt h hf).2; have := hF k hh; omega
  exact h.turn hk (fun k hf => .inr (hF k hf)) ((hk.block p (blk_lt h.hdr) (hn p (.inl rfl))).trans h.hdr) (h.num.keep hk (hn m (.inr (.inl rfl))) (fun k hf => Nat.le_trans (Nat.le_trans h.base h.since.size) (hF k hf)))
    (hk.own h.rowA (fun k e => hn k (.inr (.inr (.inl e))))) (hk.own h.rowE (fun k e => hn k (.inr (.inr (.inr e))))) (fun _ => .inl) (fun _ => .inl) h.ins h.exits (fun _ => .inl) (fun _ => .inl)
theorem BD.later (h : BD n w0 p m T fu pa C w) (hk : Since w.heap.size w w') : BD n w0 p m T fu pa C w' := by
  obtain ⟨A, ca, E, ce, R, X, h⟩ := h
  exact ⟨A, ca, E, ce, R, X, h.away hk (fun _ => id)⟩
theorem BD.quiet (h : BD n w0 p m T fu pa C w) (hk : Keep (fun _ => False) w w') : BD n w0 p m T fu pa C w' := h.later (Since.of hk)
theorem BD.at_ (h : BD n w0 p m T fu pa C w) {x : Nat × Obj} (hx : x ∈ C) : w.heap[x.1]? = some x.2 := by
  obtain ⟨A, ca, E, ce, R, X, h⟩ := h
  exact (h.objs x hx).1
theorem BD.more (h : BD n w0 p m T fu pa C w) (o : Obj) : BD n w0 p m T fu pa ((w.heap.size, o) :: C) (w.alloc o) := by
  have hq := h.quiet ((Keep.refl (fun _ => False) w).alloc' o)
  obtain ⟨A, ca, E, ce, R, X, h⟩ := h
  have hd := h.away ((Keep.refl (fun _ => False) w).alloc' o) (fun _ hh => hh.elim)
  refine ⟨A, ca, E, ce, R, X, ⟨hd.hdr, hd.num, hd.rowA, hd.rowE, hd.fitR, hd.fitX, hd.ins, hd.exits, hd.since, hd.low, hd.base, fun x hx => ?_⟩⟩
  rcases List.mem_cons.1 hx with rfl | hx
  · exact ⟨heap_alloc_new w o, fun hf => by have := (bfoot_lt h hf).2; simp at this⟩
  · exact hd.objs x hx
theorem BD.less (h : BD n w0 p m T fu pa C w) {C' : List (Nat × Obj)} (hC : ∀ x ∈ C', x ∈ C) : BD n w0 p m T fu pa C' w := by
  obtain ⟨A, ca, E, ce, R, X, h⟩ := h
  exact ⟨A, ca, E, ce, R, X, ⟨h.hdr, h.num, h.rowA, h.rowE, h.fitR, h.fitX, h.ins, h.exits, h.since, h.low, h.base, fun x hx => h.objs x (hC x hx)⟩⟩
theorem BD.lt (h : BD n w0 p m T fu pa C w) : ∀ x ∈ C, x.1 < w.heap.size := fun x hx => blk_lt (h.at_ hx)
/-- Numbers have been read, and blocks made. -/
theorem BD.num (h : BD n w0 p m T fu pa C w) (hk : Keep (fun k => k = m ∨ w.heap.size ≤ k) w w') (nu : NU n w' m) : BD n w0 p m T fu pa C w' := by
  obtain ⟨A, ca, E, ce, R, X, h⟩ := h
  have hmt : ∀ cur, w.heap[m]? ≠ some (.cells cur 127 (0, 0)) ∧ w.heap[m]? ≠ some (.cells cur 60 (0, 0)) ∧ w.heap[m]? ≠ some (.cells cur 83 (0, 0)) := by
    intro cur
    obtain ⟨c2, hc⟩ := h.num.obj
    rw [hc]
    refine ⟨?_, ?_, ?_⟩ <;> (intro e; injection e with e; injection e with _ e; revert e; decide)
  have hn : ∀ k, k < w.heap.size → k ≠ m → ¬ (k = m ∨ w.heap.size ≤ k) := by intro k h1 h2 h3; omega
  refine ⟨A, ca, E, ce, R, X, h.turn hk (fun k hf => hf.elim (fun e => .inl (.inr (.inl e))) .inr) ((hk.block p (blk_lt h.hdr) (hn p (blk_lt h.hdr) ?_)).trans h.hdr) nu (hk.own h.rowA fun k e => hn k (own_lt h.rowA k e) ?_) (hk.own h.rowE fun k e => hn k (own_lt h.rowE k e) ?_) (fun _ => .inl) (fun _ => .inl) h.ins h.exits (fun _ => .inl) (fun _ => .inl)⟩
  · intro e
    exact (hmt _).1 (e ▸ h.hdr)
  · intro e2
    obtain ⟨cur, hc⟩ := own_type h.rowA e
    exact (hmt cur).2.1 (e2 ▸ hc)
  · intro e2
    obtain ⟨cur, hc⟩ := own_type h.rowE e
    exact (hmt cur).2.2 (e2 ▸ hc)
/-- A block beside the builder is written to. -/
theorem BD.put {b : Nat} {cs : Array Value} {t : TypeId} (h : BD n w0 p m T fu pa ((b, .cells cs t (0, 0)) :: C) w) (ht : t ≠ 3 ∧ t ≠ 9 ∧ t ≠ 95) (hC : ∀ x ∈ C, x.1 ≠ b) (hn : n ≤ b) {w' : World} (i : Nat) (v : Value) :
    BD n w0 p m T fu pa ((b, .cells (cs.setIfInBounds i v) t (0, 0)) :: C) (w.setCell ⟨b, i, none⟩ v) := by
  obtain ⟨A, ca, E, ce, R, X, h⟩ := h
  obtain ⟨hb, hf⟩ := h.objs _ (.head _)
  dsimp only at hb hf
  have hk : Keep (fun k => k = b) w (w.setCell ⟨b, i, none⟩ v) := keep_set (Keep.refl _ w) i v
  have hbt : ∀ t' : TypeId, t ≠ t' → ∀ g cur, w.heap[g]? = some (.cells cur t' (0, 0)) → ¬ g = b := by
    intro t' ht' g cur hg e
    subst e
    rw [hb] at hg
    injection hg with hg
    injection hg with _ e
    exact ht' e
  have hne : ∀ k, bfoot p m (.slice A R.length ca) (.slice E X.length ce) k → ¬ k = b := fun k hk e => hf (e ▸ hk)
  refine ⟨A, ca, E, ce, R, X, ⟨(hk.block p (blk_lt h.hdr) (hne p (.inl rfl))).trans h.hdr, h.num.keep hk (hne m (.inr (.inl rfl))) (fun k e => by subst e; exact hn), hk.own h.rowA (fun k e => hne k (.inr (.inr (.inl e)))), hk.own h.rowE (fun k e => hne k (.inr (.inr (.inr e)))),
    fun r hr => (h.fitR r hr).keep hk (hbt _ ht.1) (hbt _ ht.2.1), fun r hr => (h.fitX r hr).keep hk (hbt _ ht.1) (hbt _ ht.2.2), h.ins, h.exits, Keep.trans h.since (Keep.mono hk (fun k e => by subst e; exact hn)), h.low, h.base, fun x hx => ?_⟩⟩
  rcases List.mem_cons.1 hx with rfl | hx
  · exact ⟨blk_set hb i v, hf⟩
  · obtain ⟨a, c⟩ := h.objs x (.tail _ hx)
    exact ⟨(hk.block _ (blk_lt a) (hC x hx)).trans a, c⟩
theorem bNext (h : BD n w0 p m T fu pa C w) (c : Int) (hc : 1 ≤ c ∧ c ≤ 1000000) : Calls Tryd.prog 73 #[.pointer (some ⟨m, 0, none⟩), .int .i64 c] w fun e w' => ∃ r : Int, e = .returned (.int .i64 r) ∧ (0 ≤ r ∧ r < c) ∧ BD n w0 p m T fu pa C w' := by
  have hn : NU n w m := let ⟨_, _, _, _, _, _, h⟩ := h; h.num
  exact (next_any hn c hc).mono fun e w' ⟨r, a, b, c, d⟩ => ⟨r, a, b, h.num (Keep.mono d (fun _ => .inl)) c⟩
theorem BD.nu (h : BD n w0 p m T fu pa C w) : NU n w m := let ⟨_, _, _, _, _, _, h⟩ := h; h.num
/-- The builder's cells. -/
theorem BD.cells (h : BD n w0 p m T fu pa C w) : ∃ A ca E ce, w.heap[p]? = some (.cells #[.pointer (some ⟨m, 0, none⟩), .int .i64 T.pf, .int .i64 T.pl, .slice A T.ins.length ca, .slice E T.exits.length ce, .int .i64 fu, .int .i64 pa] 127 (0, 0)) ∧
    (0 < T.ins.length → ∃ g, A = some ⟨g, 0, none⟩ ∧ g ≠ m ∧ g < w.heap.size ∧ ∀ k, k < T.ins.length → w.cell? ⟨g, k * 14, none⟩ = some (.int .i64 (T.ins.getD k TI.zero).op)) := by
  obtain ⟨A, ca, E, ce, R, X, h⟩ := h
  have e1 : R.length = T.ins.length := by rw [← h.ins, List.length_map]
  have e2 : X.length = T.exits.length := by rw [← h.exits, List.length_map]
  refine ⟨A, ca, E, ce, by rw [← e1, ← e2]; exact h.hdr, fun h0 => ?_⟩
  rcases h.rowA.2 with ⟨_, h2⟩ | ⟨g, cap, cur, h1, _, h3, h4, _, h6, h7⟩
  · omega
  · injection h1 with h1 _ _
    refine ⟨g, h1, fun e => ?_, blk_lt h3, fun k hk => ?_⟩
    · obtain ⟨c2, hc⟩ := h.num.obj
      rw [← e, h3] at hc
      injection hc with hc
      injection hc with _ e
      revert e
      decide
    · have hr := rowG_at RI.cells_length RI.dflt R k 0 (by omega) (by omega)
      have h8 := congrArg (fun l => l[k * 14]?) h7
      rw [List.getElem?_take_of_lt (by omega)] at h8
      rw [Nat.add_zero] at hr
      rw [blk_cell h3, ← Array.getElem?_toList, h8, hr, ← h.ins]
      simp [RI.cells, List.getD_eq_getElem?_getD, List.getElem?_map, List.getElem?_eq_getElem (show k < R.length by omega)]
end
end Go.Proofs.YtnbpgipbfejllaaDoor
/- graph: which operators have values; the values of a builder. -/
namespace Go.Proofs.YtnbpgipbfejllaaDoor
open Go.RowKit
set_option linter.unusedVariables false
set_option linter.unusedSimpArgs false

theorem Tryd.ints1 : OneTy Tryd.prog 22 3 (.int .i64 0) 8 := ⟨Tryd.underlying22, by kernel_rfl, rfl⟩
theorem Tryd.ints2 : OneTy Tryd.prog 58 9 (.string ⟨#[]⟩) 16 := ⟨Tryd.underlying58, by kernel_rfl, rfl⟩
theorem strs_one (l : List Bytes) : ∀ u ∈ strs l, u.oneCell' = true := by
  intro u hu
  obtain ⟨_, _, rfl⟩ := List.mem_map.1 hu
  rfl
/-- An operator has a value. -/
def hasOp (op : Int) : Bool := op == 1 || (op == 2 || (op == 3 || (op == 4 || (op == 10 || (op == 12 || (op == 14 || (op == 16 || op == 17)))))))
set_option maxRecDepth 100000 in
theorem has_any (op : Int) (w : World) : Calls Tryd.prog 54 #[.int .i64 op] w fun e w' => e = .returned (.bool (hasOp op)) ∧ w = w' := by
  by_cases h1 : op = 1
  · subst h1
    go_enter Tryd.func54, Tryd.ntmps54
    go_wp2_with fail
    go_ret
    exact ⟨rfl, rfl⟩
  have b1 : (op == 1) = false := by simpa using h1
  by_cases h2 : op = 2
  · subst h2
    go_enter Tryd.func54, Tryd.ntmps54
    go_wp2_with fail
    go_ret
    exact ⟨rfl, rfl⟩
  have b2 : (op == 2) = false := by simpa using h2
  by_cases h3 : op = 3
  · subst h3
    go_enter Tryd.func54, Tryd.ntmps54
    go_wp2_with fail
    go_ret
    exact ⟨rfl, rfl⟩
  have b3 : (op == 3) = false := by simpa using h3
  by_cases h4 : op = 4
  · subst h4
    go_enter Tryd.func54, Tryd.ntmps54
    go_wp2_with fail
    go_ret
    exact ⟨rfl, rfl⟩
  have b4 : (op == 4) = false := by simpa using h4
  by_cases h10 : op = 10
  · subst h10
    go_enter Tryd.func54, Tryd.ntmps54
    go_wp2_with fail
    go_ret
    exact ⟨rfl, rfl⟩
  have b10 : (op == 10) = false := by simpa using h10
  by_cases h12 : op = 12
  · subst h12
    go_enter Tryd.func54, Tryd.ntmps54
    go_wp2_with fail
    go_ret
    exact ⟨rfl, rfl⟩
  have b12 : (op == 12) = false := by simpa using h12
  by_cases h14 : op = 14
  · subst h14
    go_enter Tryd.func54, Tryd.ntmps54
    go_wp2_with fail
    go_ret
    exact ⟨rfl, rfl⟩
  have b14 : (op == 14) = false := by simpa using h14
  by_cases h16 : op = 16
  · subst h16
    go_enter Tryd.func54, Tryd.ntmps54
    go_wp2_with fail
    go_ret
    exact ⟨rfl, rfl⟩
  have b16 : (op == 16) = false := by simpa using h16
  by_cases h17 : op = 17
  · subst h17
    go_enter Tryd.func54, Tryd.ntmps54
    go_wp2_with fail
    go_ret
    exact ⟨rfl, rfl⟩
  have b17 : (op == 17) = false := by simpa using h17
  have hh : hasOp op = false := by unfold hasOp; rw [b1, b2, b3, b4, b10, b12, b14, b16, b17]; rfl
  rw [hh]
  clear hh
  go_enter Tryd.func54, Tryd.ntmps54
  go_wp2_with fail
  go_ret
  exact ⟨rfl, rfl⟩
/-- A value before an instruction. -/
def Val (T : TR) (v : Nat) : Prop := v < T.ins.length ∧ hasOp (T.ins.getD v TI.zero).op = true
def nats (l : List Nat) : List Int := l.map fun v : Nat => (v : Int)
theorem nats_at {l : List Nat} {j : Nat} (h : j < l.length) : (nats l).getD j 0 = (l.getD j 0 : Int) := by
  unfold nats
  simp [List.getD_eq_getElem?_getD, List.getElem?_map, List.getElem?_eq_getElem h]
/-- The values before k. -/
def valsTo (T : TR) (k : Nat) : List Nat := (List.range k).filter fun v => hasOp (T.ins.getD v TI.zero).op
theorem valsTo_succ (T : TR) (k : Nat) : valsTo T (k + 1) = valsTo T k ++ if hasOp (T.ins.getD k TI.zero).op then [k] else [] := by
  unfold valsTo
  rw [List.range_succ, List.filter_append]
  simp [List.filter_cons]
theorem valsTo_len (T : TR) (k : Nat) : (valsTo T k).length ≤ k := by
  unfold valsTo
  exact Nat.le_trans (List.length_filter_le ..) (by simp)
theorem valsTo_mem {T : TR} {k j : Nat} (hj : j < (valsTo T k).length) : (valsTo T k).getD j 0 < k ∧ hasOp (T.ins.getD ((valsTo T k).getD j 0) TI.zero).op = true := by
  have hm : (valsTo T k).getD j 0 ∈ valsTo T k := getD_mem hj
  obtain ⟨a, b⟩ := List.mem_filter.1 hm
  exact ⟨by simpa using a, b⟩
theorem valsTo_pos {T : TR} (h : Val T 0) : 0 < (valsTo T T.ins.length).length := by
  have : 0 ∈ valsTo T T.ins.length := List.mem_filter.2 ⟨by simpa using h.1, h.2⟩
  exact List.length_pos_of_mem this
section
variable {n : Nat} {w0 w : World} {p m : Nat} {T : TR} {fu pa : Int} {C : List (Nat × Obj)}
set_option maxRecDepth 100000 in
set_option maxHeartbeats 8000000 in
theorem value_any (h : BD n w0 p m T fu pa C w) (hv : Val T 0) (hl : T.ins.length ≤ 1000) :
    Calls Tryd.prog 77 #[.pointer (some ⟨p, 0, none⟩)] w fun e w' => ∃ v : Nat, e = .returned (.int .i64 (v : Int)) ∧ Val T v ∧ NU n w' m ∧ Keep (fun k => k = m) w w' := by
  obtain ⟨N, hN⟩ : ∃ N, T.ins.length = N := ⟨_, rfl⟩
  have hvp := valsTo_pos hv
  have hm0 : m < w.heap.size := h.nu.lt
  have hp0 : ∃ A ca E ce, w.heap[p]? = some (.cells #[.pointer (some ⟨m, 0, none⟩), .int .i64 T.pf, .int .i64 T.pl, .slice A N ca, .slice E T.exits.length ce, .int .i64 fu, .int .i64 pa] 127 (0, 0)) ∧
    (0 < N → ∃ g, A = some ⟨g, 0, none⟩ ∧ g ≠ m ∧ g < w.heap.size ∧ ∀ k, k < N → w.cell? ⟨g, k * 14, none⟩ = some (.int .i64 (T.ins.getD k TI.zero).op)) := by
    rw [← hN]; exact h.cells
  obtain ⟨A, ca, E, ce, hb, hA⟩ := hp0
  obtain ⟨g, rfl, hgm, hgl, hcl⟩ := hA (by have := hv.1; omega)
  have hpm : p ≠ m := by
    rintro rfl
    obtain ⟨c2, hc⟩ := h.nu.obj
    rw [hb] at hc
    injection hc with hc
    injection hc with _ e
    revert e
    decide
  have HNU := Lib.hid h.nu
  have HB := Lib.hid hb
  have HC := Lib.hid hcl
  have HL := Lib.hid (And.intro hpm (And.intro hgm (And.intro hgl hm0)))
  rw [hN] at hl hvp
  have HVP := Lib.hid hvp
  have HN := Lib.hid hN
  have HH := Lib.hid (fun (op : Int) (W : World) => has_any op W)
  clear h hb hcl hA hpm hgm hgl hm0 hN hvp hv
  go_enter Tryd.func77, Tryd.ntmps77
  go_wp2_with fail
  have V0 := Lib.hid (show w.ownsRow w.heap.size 3 1 (.slice none 0 0) (valsTo T 0).length (ints (nats (valsTo T 0))) ∧ Keep (fun _ => False) w w from ⟨World.ownsRow_nil _ _ _ _, Keep.refl _ _⟩)
  go_loopw [3, 4] (fun a i wr => ∃ k : Nat, k ≤ N ∧ i = .int .i64 (k : Int) ∧ ∃ R c, a = .slice R (valsTo T k).length c ∧ Hid (wr.ownsRow w.heap.size 3 1 a (valsTo T k).length (ints (nats (valsTo T k))) ∧ Since w.heap.size w wr)) (fun _ i _ => N + 1 - (RowKit.intOf i).toNat)
  case atStart => exact ⟨0, Nat.zero_le _, rfl, none, 0, rfl, Lib.hid ⟨V0.out.1, Keep.refl _ _⟩⟩
  case round =>
    obtain ⟨k, hk, rfl, R, c, rfl, VV⟩ := hrel
    obtain ⟨wo, rfl⟩ : ∃ wo : World, wo = wr := ⟨_, rfl⟩
    clear V0
    have hbo : wo.heap[p]? = _ := (VV.out.2.block p (blk_lt HB.out) (by have := blk_lt HB.out; omega)).trans HB.out
    have q0 := (blk_cell hbo 0).trans rfl
    have q3 := (blk_cell hbo 3).trans rfl
    have hkl := valsTo_len T k
    obtain ⟨L, hL⟩ : ∃ L, (valsTo T k).length = L := ⟨_, rfl⟩
    by_cases hlt : k < N
    · have hb1 : decide (k < N) = true := by simpa using hlt
      have q4 : wo.cell? ⟨g, k * 14, none⟩ = _ := cell_kept VV.out.2 (HC.out k hlt) (by have := HL.out.2.2.1; simp only; omega)
      have HVS := Lib.hid (valsTo_succ T k)
      obtain ⟨op, hop⟩ : ∃ op, (T.ins.getD k TI.zero).op = op := ⟨_, rfl⟩
      rw [hop] at q4 HVS
      have HO := Lib.hid (HH.out op wo)
      obtain ⟨hp, hhp⟩ : ∃ hp, hasOp op = hp := ⟨_, rfl⟩
      rw [hhp] at HO HVS
      rw [hL] at VV
      have HLL := Lib.hid hL
      rw [hL]
      rw [hL] at hkl
      clear hop hhp hbo hL
      go_wp2_with fail
      ((with_reducible refine HO.out.mono ?_); rintro ee w2 ⟨rfl, rfl⟩)
      cases hp with
      | false =>
        have HE := Lib.hid (show valsTo T (k + 1) = valsTo T k by rw [HVS.out]; simp)
        clear HO q0 q3 q4
        go_wp2_with fail
        exact ⟨⟨k + 1, by omega, by go_num, R, c, by rw [HE.out, HLL.out], by rw [HE.out, HLL.out]; exact VV⟩, by simp [RowKit.intOf]; omega⟩
      | true =>
        have HE := Lib.hid (show valsTo T (k + 1) = valsTo T k ++ [k] by rw [HVS.out]; simp)
        clear HO q0 q3 q4
        go_wp2_with (at_builtin; refine wpList_append_src 22 3 _ 8 w.heap.size Tryd.ints1 _ _ rfl rfl _ L (ints (nats (valsTo T k))) rfl (by exact VV.out.1.alloc _) _ 1 1 (ints [(k : Int)]) rfl (by intro h; cases h) (by exact cells_new _ _ _) (ints_one _) (by omega) (by decide) (by have := VV.out.2.size; simp; omega) ?_)
        intro v' w2 hown hgr hnil hblk
        obtain ⟨R', c', rfl⟩ := own_slice hown
        have HY := Lib.hid (show w2.ownsRow w.heap.size 3 1 (.slice R' (valsTo T (k + 1)).length c') (valsTo T (k + 1)).length (ints (nats (valsTo T (k + 1)))) ∧ Since w.heap.size w w2 from ⟨by
          rw [HE.out, List.length_append, HLL.out]
          unfold nats at hown ⊢
          rw [List.map_append, ints_append]
          exact hown, (Keep.trans VV.out.2 (Since.of ((Keep.refl _ wo).alloc' _))).grown hgr (fun k e => .inl (own_low VV.out.1 e))⟩)
        have HLN := Lib.hid (show (valsTo T (k + 1)).length = L + 1 by rw [HE.out, List.length_append, HLL.out]; rfl)
        clear hown hgr hnil hblk
        go_wp2_with fail
        exact ⟨⟨k + 1, by omega, by go_num, R', c', by rw [HLN.out], by have h5 := HY; rw [HLN.out] at h5 ⊢; exact h5⟩, by simp [RowKit.intOf]; omega⟩
    · have hb1 : decide (k < N) = false := by simpa using hlt
      obtain rfl : k = N := by omega
      have hLp : 0 < L := by have := HVP.out; omega
      have hL0 : decide (L = 0) = false := by simp; omega
      have hL1 : ((L : Int) == 0) = false := by simp; omega
      rw [hL] at VV
      have HLL := Lib.hid hL
      rw [hL]
      rw [hL] at hkl
      have HNU2 := Lib.hid (HNU.out.keep VV.out.2 (by have := HL.out.2.2.2; omega) (fun k hk => by have := HNU.out.base; have := HL.out.2.2.2; omega))
      have HX := Lib.hid (next_any HNU2.out 2 (by omega))
      clear hbo hL
      go_wp2_with fail
      ((with_reducible refine HX.out.mono ?_); rintro ee w2 ⟨r, rfl, hr, hn2, hk2⟩)
      have hb2 := (hk2.block p (by have := blk_lt HB.out; have := VV.out.2.size; omega) HL.out.1).trans ((VV.out.2.block p (blk_lt HB.out) (by have := blk_lt HB.out; omega)).trans HB.out)
      have VO := Lib.hid (hk2.own VV.out.1 (fun b e => by have := own_low VV.out.1 e; have := HL.out.2.2.2; omega))
      have VK := Lib.hid (Keep.then (Keep.mono VV.out.2 (F' := fun i => i = m ∨ w.heap.size ≤ i) (fun _ => .inr)) hk2 (fun i e => .inl (.inl e)))
      have HNU3 := Lib.hid hn2
      have r0 := (blk_cell hb2 0).trans rfl
      have HB2 := Lib.hid hb2
      have HVM := Lib.hid (fun j (hj : j < L) => valsTo_mem (T := T) (k := k) (j := j) (by rw [HLL.out]; exact hj))
      have HVA := Lib.hid (fun j (hj : j < L) => nats_at (l := valsTo T k) (j := j) (by rw [HLL.out]; exact hj))
      clear hk2 hn2 hb2 HX HNU2 q0 q3 VV
      have fin : ∀ (W : World) (j : Nat) (hj : j < L), Keep (fun i => i = m) w2 W → ∃ gb go, R = some ⟨gb, go, none⟩ ∧ W.cell? ⟨gb, go + j, none⟩ = some (.int .i64 ((valsTo T k).getD j 0 : Int)) := by
        intro W j hj hk
        have h5 := hk.own VO.out (fun b e => by have := own_low VO.out e; have := HL.out.2.2.2; omega)
        have h6 := (Lies.own h5 (by decide) (by omega)).1
        rw [Nat.mul_one] at h6
        obtain ⟨gb, go, e, h7⟩ := IntsAt.at_ h6 j hj
        exact ⟨gb, go, e, h7.trans (by rw [HVA.out j hj])⟩
      have FIN := Lib.hid fin
      clear fin
      rcases (show r = 0 ∨ r = 1 by omega) with rfl | rfl
      · obtain ⟨z, hz⟩ : ∃ z : Nat, (if L < 3 then L else 3) = z := ⟨_, rfl⟩
        have hzb : 1 ≤ z ∧ z ≤ L ∧ z ≤ 3 := by rw [← hz]; split <;> omega
        have hmin : ∀ W, (Builtin.min_ #[3, 3] 3 #[.int .i64 3, .int .i64 (L : Int)]).run Tryd.prog W = .ok (.int .i64 (z : Int)) W := by
          intro W
          rw [run_min_int2]
          congr 2
          rw [← hz]
          split <;> split <;> omega
        have HX2 := Lib.hid (next_any HNU3.out (z : Int) (by omega))
        clear hz
        go_wp2_with fail
        ((with_reducible refine HX2.out.mono ?_); rintro ee w3 ⟨r2, rfl, hr2, hn3, hk3⟩)
        obtain ⟨j2, rfl⟩ : ∃ j2 : Nat, r2 = (j2 : Int) := ⟨r2.toNat, by omega⟩
        obtain ⟨j, hj⟩ : ∃ j : Nat, L - 1 - j2 = j := ⟨_, rfl⟩
        have hix : (L : Int) - 1 - (j2 : Int) = (j : Int) := by omega
        have hjL : j < L := by omega
        obtain ⟨gb, go, rfl, x0⟩ := FIN.out w3 j hjL hk3
        have HV := Lib.hid (HVM.out j hjL)
        obtain ⟨vv, hvv⟩ : ∃ vv, (valsTo T k).getD j 0 = vv := ⟨_, rfl⟩
        rw [hvv] at x0 HV
        have HFK := Lib.hid (And.intro hn3 hk3)
        clear hj hvv hn3 hk3 HX2 hmin r0
        go_wp2_with fail
        go_ret
        refine ⟨vv, rfl, ⟨by rw [HN.out]; exact HV.out.1, HV.out.2⟩, HFK.out.1, ?_⟩
        have h9 := Keep.then VK.out HFK.out.2 (fun i e => .inl (.inl e))
        exact ⟨h9.os, h9.tape, h9.output, h9.size, fun i hi hf => h9.block i hi (by omega)⟩
      · have HX2 := Lib.hid (next_any HNU3.out (L : Int) (by omega))
        go_wp2_with fail
        ((with_reducible refine HX2.out.mono ?_); rintro ee w3 ⟨r2, rfl, hr2, hn3, hk3⟩)
        obtain ⟨j, rfl⟩ : ∃ j2 : Nat, r2 = (j2 : Int) := ⟨r2.toNat, by omega⟩
        have hjL : j < L := by omega
        obtain ⟨gb, go, rfl, x0⟩ := FIN.out w3 j hjL hk3
        have HV := Lib.hid (HVM.out j hjL)
        obtain ⟨vv, hvv⟩ : ∃ vv, (valsTo T k).getD j 0 = vv := ⟨_, rfl⟩
        rw [hvv] at x0 HV
        have HFK := Lib.hid (And.intro hn3 hk3)
        clear hvv hn3 hk3 HX2 r0
        go_wp2_with fail
        go_ret
        refine ⟨vv, rfl, ⟨by rw [HN.out]; exact HV.out.1, HV.out.2⟩, HFK.out.1, ?_⟩
        have h9 := Keep.then VK.out HFK.out.2 (fun i e => .inl (.inl e))
        exact ⟨h9.os, h9.tape, h9.output, h9.size, fun i hi hf => h9.block i hi (by omega)⟩
end
end Go.Proofs.YtnbpgipbfejllaaDoor
/- graph: what the builder makes, plain: instructions of the right shapes, exits in order. -/
namespace Go.Proofs.YtnbpgipbfejllaaDoor
set_option linter.unusedVariables false
set_option linter.unusedSimpArgs false

/-- A number that an exit mentions. -/
def Named (T : TR) (k : Nat) (v : Int) : Prop := v = -1 ∨ ∃ u : Nat, v = (u : Int) ∧ u < k ∧ hasOp (T.ins.getD u TI.zero).op = true
structure ExOK (T : TR) (k : Nat) (e : TX) : Prop where
  many : 1 ≤ e.frames.length ∧ e.frames.length ≤ 2
  back : 0 ≤ e.back
  each : ∀ f ∈ e.frames, 0 ≤ f.fn ∧ 0 ≤ f.ln ∧ f.vars.length ≤ 24 ∧ ∀ v ∈ f.vars, Named T k v
/-- A value before k. -/
def VB (T : TR) (k : Nat) (v : Int) : Prop := ∃ u : Nat, v = (u : Int) ∧ u < k ∧ hasOp (T.ins.getD u TI.zero).op = true
def xy : List Bytes := [[120], [121]]
inductive Shape (T : TR) (P k : Nat) : TI → Prop
  | param : k < P → Shape T P k ⟨1, 0, 0, 0, 0, [], 3, (k : Int), [], [], 0, 0, -1, false⟩
  | const (kk kn : Int) (ks : Bytes) (once : Bool) : (kk = 3 ∧ -2 ≤ kn ∧ kn ≤ 4 ∧ ks = [] ∨ kk = 1 ∧ kn = 0 ∧ ks = [] ∨ kk = 2 ∧ kn = 1 ∧ ks = [] ∨ kk = 4 ∧ kn = 0 ∧ ks = [115]) → Shape T P k ⟨2, 0, 0, 0, 0, [], kk, kn, ks, [], 0, 0, -1, once⟩
  | unary (a n ex : Int) (once : Bool) : VB T k a → 3 ≤ n ∧ n ≤ 4 → 0 ≤ ex → Shape T P k ⟨3, a, 0, 0, n, [], 0, 0, [], [], 0, 0, ex, once⟩
  | binary (a b n ex : Int) (once : Bool) : VB T k a → VB T k b → 5 ≤ n ∧ n ≤ 14 → 0 ≤ ex → Shape T P k ⟨4, a, b, 0, n, [], 0, 0, [], [], 0, 0, ex, once⟩
  | guard (a n ex : Int) (once : Bool) : VB T k a → 0 ≤ n ∧ n ≤ 1 → 0 ≤ ex → Shape T P k ⟨5, a, 0, 0, n, [], 0, 0, [], [], 0, 0, ex, once⟩
  | kind (a n ex : Int) (once : Bool) : VB T k a → 1 ≤ n ∧ n ≤ 4 → 0 ≤ ex → Shape T P k ⟨6, a, 0, 0, n, [], 0, 0, [], [], 0, 0, ex, once⟩
  | shape (a ex : Int) (once : Bool) : VB T k a → 0 ≤ ex → Shape T P k ⟨7, a, 0, 0, 0, [], 0, 0, [], xy, 0, 0, ex, once⟩
  | arr (a ex : Int) (once : Bool) : VB T k a → 0 ≤ ex → Shape T P k ⟨8, a, 0, 0, 0, [], 0, 0, [], [], 0, 0, ex, once⟩
  | bounds (a b ex : Int) (once : Bool) : VB T k a → VB T k b → 0 ≤ ex → Shape T P k ⟨9, a, b, 0, 0, [], 0, 0, [], [], 0, 0, ex, once⟩
  | load (a n : Int) (once : Bool) : VB T k a → 0 ≤ n ∧ n ≤ 1 → Shape T P k ⟨10, a, 0, 0, n, [], 0, 0, [], [], 0, 0, -1, once⟩
  | store (a b n : Int) : VB T k a → VB T k b → 0 ≤ n ∧ n ≤ 1 → Shape T P k ⟨11, a, b, 0, n, [], 0, 0, [], [], 0, 0, -1, false⟩
  | at_ (a b : Int) (once : Bool) : VB T k a → VB T k b → Shape T P k ⟨12, a, b, 0, 0, [], 0, 0, [], [], 0, 0, -1, once⟩
  | put (a b c : Int) : VB T k a → VB T k b → VB T k c → Shape T P k ⟨13, a, b, c, 0, [], 0, 0, [], [], 0, 0, -1, false⟩
  | len (a : Int) (once : Bool) : VB T k a → Shape T P k ⟨14, a, 0, 0, 0, [], 0, 0, [], [], 0, 0, -1, once⟩
  | bytes (ex : Int) : 0 ≤ ex → Shape T P k ⟨15, 0, 0, 0, 32, [], 0, 0, [], [], 0, 0, ex, false⟩
  | new : Shape T P k ⟨16, 0, 0, 0, 0, [], 0, 0, [], xy, 0, 0, -1, false⟩
  | fuel (n ex : Int) : 1 ≤ n ∧ n ≤ 4 → 0 ≤ ex → Shape T P k ⟨18, 0, 0, 0, n, [], 0, 0, [], [], 0, 0, ex, false⟩
  | print (a pl : Int) : VB T k a → 0 ≤ pl ∧ pl ≤ 2 → Shape T P k ⟨19, a, 0, 0, 0, [], 0, 0, [], [], 0, pl, -1, false⟩
  | loop (args : List Int) : args.length = P → (∀ v ∈ args, VB T k v) → Shape T P k ⟨20, 0, 0, 0, 0, args, 0, 0, [], [], 0, 0, -1, false⟩
  | fin (ex : Int) : 0 ≤ ex → Shape T P k ⟨21, 0, 0, 0, 0, [], 0, 0, [], [], 0, 0, ex, false⟩
def TR.at_ (T : TR) (k : Nat) : TI := T.ins.getD k TI.zero
def TX.dflt : TX := ⟨[], 0⟩
def TR.ext (T : TR) (k : Nat) : TX := T.exits.getD (T.at_ k).ex.toNat TX.dflt
def TR.push (T : TR) (x : TI) : TR := { T with ins := T.ins ++ [x] }
def TR.exit (T : TR) (e : TX) : TR := { T with exits := T.exits ++ [e] }
/-- The instructions so far. -/
structure GoodT (P : Nat) (T : TR) : Prop where
  place : T.pf = 0 ∧ T.pl = 0
  few : T.exits.length ≤ T.ins.length
  shape : ∀ k, k < T.ins.length → Shape T P k (T.at_ k) ∧ (k < P → (T.at_ k).op = 1)
  exit : ∀ k, k < T.ins.length → 0 ≤ (T.at_ k).ex → (T.at_ k).ex < T.exits.length ∧ ExOK T k (T.ext k)
  inc : ∀ j k, j < k → k < T.ins.length → 0 ≤ (T.at_ j).ex → 0 ≤ (T.at_ k).ex → (T.at_ j).ex < (T.at_ k).ex
  exs : ∀ e ∈ T.exits, e.frames.length ≤ 2 ∧ ∀ f ∈ e.frames, f.vars.length ≤ 24
/-- .. of which none ends the trace. -/
def Body (T : TR) : Prop := ∀ k, k < T.ins.length → (T.at_ k).op ≠ 20 ∧ (T.at_ k).op ≠ 21
theorem at_push {T : TR} {x : TI} {k : Nat} (h : k < T.ins.length) : (T.push x).at_ k = T.at_ k := by
  unfold TR.at_ TR.push
  simp only [List.getD_eq_getElem?_getD, List.getElem?_append_left h]
theorem at_last {T : TR} {x : TI} : (T.push x).at_ T.ins.length = x := by
  unfold TR.at_ TR.push
  simp [List.getD_eq_getElem?_getD]
theorem push_len {T : TR} {x : TI} : (T.push x).ins.length = T.ins.length + 1 := by simp [TR.push]
theorem VB.push {T : TR} {k : Nat} {v : Int} {x : TI} (h : VB T k v) (hk : k ≤ T.ins.length) : VB (T.push x) k v := by
  obtain ⟨u, rfl, hu, ho⟩ := h
  have := at_push (x := x) (show u < T.ins.length by omega)
  exact ⟨u, rfl, hu, by rw [show (T.push x).ins.getD u TI.zero = T.ins.getD u TI.zero from this]; exact ho⟩
theorem Named.push {T : TR} {k : Nat} {v : Int} {x : TI} (h : Named T k v) (hk : k ≤ T.ins.length) : Named (T.push x) k v := h.elim .inl (fun h => .inr (VB.push h hk))
theorem ExOK.push {T : TR} {k : Nat} {e : TX} {x : TI} (h : ExOK T k e) (hk : k ≤ T.ins.length) : ExOK (T.push x) k e :=
  ⟨h.many, h.back, fun f hf => ⟨(h.each f hf).1, (h.each f hf).2.1, (h.each f hf).2.2.1, fun v hv => ((h.each f hf).2.2.2 v hv).push hk⟩⟩
theorem Shape.mono {T T' : TR} {P k : Nat} {x : TI} (h : Shape T P k x) (hV : ∀ v, VB T k v → VB T' k v) : Shape T' P k x := by
  cases h with
  | param a => exact .param a
  | const _ _ _ _ a => exact .const _ _ _ _ a
  | unary _ _ _ _ a b c => exact .unary _ _ _ _ (hV _ a) b c
  | binary _ _ _ _ _ a b c d => exact .binary _ _ _ _ _ (hV _ a) (hV _ b) c d
  | guard _ _ _ _ a b c => exact .guard _ _ _ _ (hV _ a) b c
  | kind _ _ _ _ a b c => exact .kind _ _ _ _ (hV _ a) b c
  | shape _ _ _ a b => exact .shape _ _ _ (hV _ a) b
  | arr _ _ _ a b => exact .arr _ _ _ (hV _ a) b
  | bounds _ _ _ _ a b c => exact .bounds _ _ _ _ (hV _ a) (hV _ b) c
  | load _ _ _ a b => exact .load _ _ _ (hV _ a) b
  | store _ _ _ a b c => exact .store _ _ _ (hV _ a) (hV _ b) c
  | at_ _ _ _ a b => exact .at_ _ _ _ (hV _ a) (hV _ b)
  | put _ _ _ a b c => exact .put _ _ _ (hV _ a) (hV _ b) (hV _ c)
  | len _ _ a => exact .len _ _ (hV _ a)
  | bytes _ a => exact .bytes _ a
  | new => exact .new
  | fuel _ _ a b => exact .fuel _ _ a b
  | print _ _ a b => exact .print _ _ (hV _ a) b
  | loop _ a b => exact .loop _ a (fun v hv => hV v (b v hv))
  | fin _ a => exact .fin _ a
/-- An instruction without an exit is added. -/
theorem GoodT.push {P : Nat} {T : TR} {x : TI} (h : GoodT P T) (hs : Shape T P T.ins.length x) (hp : T.ins.length < P → x.op = 1) (hx : x.ex < 0) : GoodT P (T.push x) := by
  have hk : ∀ k, k < (T.push x).ins.length → k < T.ins.length ∨ k = T.ins.length := fun k h => by rw [push_len] at h; omega
  refine ⟨h.place, by rw [push_len]; exact Nat.le_succ_of_le h.few, fun k hh => ?_, fun k hh he => ?_, fun j k hjk hh h1 h2 => ?_, h.exs⟩
  · rcases hk k hh with h1 | rfl
    · rw [at_push h1]
      exact ⟨(h.shape k h1).1.mono (fun v hv => hv.push (by omega)), (h.shape k h1).2⟩
    · rw [at_last]
      exact ⟨hs.mono (fun v hv => hv.push (Nat.le_refl _)), hp⟩
  · rcases hk k hh with h1 | rfl
    · rw [at_push h1] at he ⊢
      have h3 := h.exit k h1 he
      refine ⟨h3.1, ?_⟩
      unfold TR.ext
      rw [at_push h1]
      exact h3.2.push (by omega)
    · rw [at_last] at he
      omega
  · rcases hk k hh with h3 | rfl
    · rw [at_push (by omega)] at h1
      rw [at_push h3] at h2
      rw [at_push h3, at_push (by omega)]
      exact h.inc j k hjk h3 h1 h2
    · rw [at_last] at h2
      omega
/-- An instruction with an exit is added. -/
theorem GoodT.leave {P : Nat} {T : TR} {x : TI} {e : TX} (h : GoodT P T) (he : ExOK T T.ins.length e) (hs : Shape T P T.ins.length x) (hp : T.ins.length < P → x.op = 1) (hx : x.ex = (T.exits.length : Nat)) (hf : T.exits.length < T.ins.length + 1) : GoodT P ((T.exit e).push x) := by
  have hk : ∀ k, k < ((T.exit e).push x).ins.length → k < T.ins.length ∨ k = T.ins.length := fun k h => by rw [push_len] at h; have : (T.exit e).ins.length = T.ins.length := rfl; omega
  have ha : ∀ k, k < T.ins.length → ((T.exit e).push x).at_ k = T.at_ k := fun k h => at_push (T := T.exit e) (x := x) h
  have hl : ((T.exit e).push x).at_ T.ins.length = x := at_last (T := T.exit e) (x := x)
  have hxl : ((T.exit e).push x).exits.length = T.exits.length + 1 := by simp [TR.push, TR.exit]
  have hV : ∀ k v, k ≤ T.ins.length → VB T k v → VB ((T.exit e).push x) k v := fun k v hk hv => VB.push (T := T.exit e) (x := x) hv hk
  have hE : ∀ k y, k ≤ T.ins.length → ExOK T k y → ExOK ((T.exit e).push x) k y := fun k y hk hy =>
    ⟨hy.many, hy.back, fun f hf => ⟨(hy.each f hf).1, (hy.each f hf).2.1, (hy.each f hf).2.2.1, fun v hv => ((hy.each f hf).2.2.2 v hv).elim .inl (fun h => .inr (hV k v hk h))⟩⟩
  refine ⟨h.place, by rw [push_len, hxl]; have : (T.exit e).ins.length = T.ins.length := rfl; omega, fun k hh => ?_, fun k hh h0 => ?_, fun j k hjk hh h1 h2 => ?_, fun y hy => (List.mem_append.1 hy).elim (h.exs y) (fun hy => by rw [List.mem_singleton.1 hy]; exact ⟨he.many.2, fun f hf => (he.each f hf).2.2.1⟩)⟩
  · rcases hk k hh with h1 | rfl
    · rw [ha k h1]
      exact ⟨(h.shape k h1).1.mono (fun v hv => hV k v (by omega) hv), (h.shape k h1).2⟩
    · rw [hl]
      exact ⟨hs.mono (fun v hv => hV _ v (Nat.le_refl _) hv), hp⟩
  · rcases hk k hh with h1 | rfl
    · rw [ha k h1] at h0 ⊢
      have h3 := h.exit k h1 h0
      refine ⟨by rw [hxl]; omega, ?_⟩
      unfold TR.ext
      rw [ha k h1]
      have e1 : ((T.exit e).push x).exits.getD (T.at_ k).ex.toNat TX.dflt = T.exits.getD (T.at_ k).ex.toNat TX.dflt := by
        show (T.exits ++ [e]).getD _ _ = _
        rw [List.getD_eq_getElem?_getD, List.getElem?_append_left (by omega), ← List.getD_eq_getElem?_getD]
      rw [e1]
      exact hE k _ (by omega) h3.2
    · rw [hl] at h0 ⊢
      refine ⟨by rw [hxl, hx]; omega, ?_⟩
      unfold TR.ext
      rw [hl, hx]
      have e1 : ((T.exit e).push x).exits.getD ((T.exits.length : Nat) : Int).toNat TX.dflt = e := by
        show (T.exits ++ [e]).getD _ _ = _
        simp [List.getD_eq_getElem?_getD]
      rw [e1]
      exact hE _ _ (Nat.le_refl _) he
  · rcases hk k hh with h3 | rfl
    · rw [ha j (by omega)] at h1
      rw [ha k h3] at h2
      rw [ha k h3, ha j (by omega)]
      exact h.inc j k hjk h3 h1 h2
    · rw [hl] at h2 ⊢
      rw [ha j hjk] at h1 ⊢
      rw [hx]
      exact (h.exit j hjk h1).1
end Go.Proofs.YtnbpgipbfejllaaDoor
/- graph: what an instruction uses. -/
namespace Go.Proofs.YtnbpgipbfejllaaDoor
open Go.RowKit
set_option linter.unusedVariables false
set_option linter.unusedSimpArgs false

set_option maxRecDepth 100000 in
theorem in_any {w : World} {A : Option Addr} {n c : Nat} {l : List Int} (h : IntsAt w A n l) (hn : n ≤ 1000000) (v : Int) : Calls Tryd.prog 55 #[.slice A n c, .int .i64 v] w fun e w' => e = .returned (.bool (decide (v ∈ l))) ∧ w = w' := by
  have HI := Lib.hid h
  have hl := h.length
  have HLN := Lib.hid hl
  clear h hl
  go_enter Tryd.func55, Tryd.ntmps55
  go_wp2_with fail
  go_loopw [5] (fun i wr => ∃ k : Nat, k ≤ n ∧ i = .int .i64 (k : Int) ∧ Hid (w = wr ∧ ∀ j, j < k → l.getD j 0 ≠ v)) (fun i _ => n + 1 - (RowKit.intOf i).toNat)
  case atStart => exact ⟨0, Nat.zero_le _, rfl, Lib.hid ⟨rfl, fun j hj => absurd hj (Nat.not_lt_zero _)⟩⟩
  case round =>
    obtain ⟨k, hk, rfl, HW⟩ := hrel
    obtain ⟨wo, rfl⟩ : ∃ wo : World, wo = wr := ⟨_, rfl⟩
    have HV := Lib.hid HW.out.2
    obtain rfl := HW.out.1
    by_cases hlt : k < n
    · have hb : decide (k < n) = true := by simpa using hlt
      obtain ⟨b, o, rfl, x0⟩ := HI.out.at_ k hlt
      obtain ⟨y, hy⟩ : ∃ y, l.getD k 0 = y := ⟨_, rfl⟩
      rw [hy] at x0
      have HY := Lib.hid hy
      clear hy
      by_cases he : y = v
      · subst he
        have hc : decide (y ∈ l) = true := by
          have h9 : l.getD k 0 ∈ l := getD_mem (by rw [HLN.out]; exact hlt)
          rw [HY.out] at h9
          simpa using h9
        have HC := Lib.hid hc
        clear hc
        go_wp2_with fail
        go_ret
        exact ⟨by rw [HC.out]; rfl, rfl⟩
      · have hev : (y == v) = false := by simpa using he
        have HV2 := Lib.hid (show w = w ∧ ∀ j, j < k + 1 → l.getD j 0 ≠ v from ⟨rfl, fun j hj => by
          by_cases h1 : j < k
          · exact HV.out j h1
          · obtain rfl : j = k := by omega
            rw [HY.out]; exact he⟩)
        go_wp2_with fail
        exact ⟨⟨k + 1, by omega, by go_num, Lib.hid ⟨trivial, HV2.out.2⟩⟩, by simp [RowKit.intOf]; omega⟩
    · have hb : decide (k < n) = false := by simpa using hlt
      obtain rfl : k = n := by omega
      have hc : decide (v ∈ l) = false := by
        refine decide_eq_false fun hm => ?_
        obtain ⟨j, hj, e⟩ := List.getElem_of_mem hm
        refine HV.out j (by rw [← HLN.out]; exact hj) ?_
        rw [List.getD_eq_getElem?_getD, List.getElem?_eq_getElem hj]
        exact e
      have HC := Lib.hid hc
      clear hc
      go_wp2_with fail
      go_ret
      exact ⟨by rw [HC.out]; rfl, rfl⟩
def TI.uses (x : TI) : List Int :=
  if x.op == 3 || (x.op == 5 || (x.op == 6 || (x.op == 7 || (x.op == 8 || (x.op == 10 || (x.op == 14 || x.op == 19)))))) then [x.a]
  else if x.op == 4 || (x.op == 9 || (x.op == 12 || x.op == 11)) then [x.a, x.b]
  else if x.op == 13 then [x.a, x.b, x.c] else if x.op == 20 then x.args else []
set_option maxRecDepth 100000 in
set_option maxHeartbeats 4000000 in
theorem used_any {w : World} (r : RI) (hf : r.Fits w) : Calls Tryd.prog 56 #[.agg r.cells.toArray] w fun e w' => ∃ A c, e = .returned (.slice A r.x.uses.length c) ∧ IntsAt w' A r.x.uses.length r.x.uses ∧ Keep (fun _ => False) w w' := by
  obtain ⟨⟨op, a, b, c, nn, args, kk, kn, ks, names, pf, pl, ex, once⟩, A2, ca2, N2, cn2⟩ := r
  unfold RI.cells TI.uses
  dsimp only
  have HF := Lib.hid hf.1
  have HB := Lib.hid (heap_alloc_new w (.cells #[.int .i64 op, .int .i64 a, .int .i64 b, .int .i64 c, .int .i64 nn, .slice A2 args.length ca2, .int .i64 kk, .int .i64 kn, .string (sb ks), .slice N2 names.length cn2, .int .i64 pf, .int .i64 pl, .int .i64 ex, .bool once] 60))
  have HK := Lib.hid ((Keep.refl (fun _ => False) w).alloc' (.cells #[.int .i64 op, .int .i64 a, .int .i64 b, .int .i64 c, .int .i64 nn, .slice A2 args.length ca2, .int .i64 kk, .int .i64 kn, .string (sb ks), .slice N2 names.length cn2, .int .i64 pf, .int .i64 pl, .int .i64 ex, .bool once] 60))
  clear hf
  by_cases h3 : op = 3
  · subst h3
    go_enter Tryd.func56, Tryd.ntmps56
    go_wp2_with fail
    go_ret
    have h9 := cells_new (w.alloc (.cells #[.int .i64 3, .int .i64 a, .int .i64 b, .int .i64 c, .int .i64 nn, .slice A2 args.length ca2, .int .i64 kk, .int .i64 kn, .string (sb ks), .slice N2 names.length cn2, .int .i64 pf, .int .i64 pl, .int .i64 ex, .bool once] 60)) (ints [a]) 3 (by simp [ints])
    rw [World.size_alloc] at h9
    exact ⟨_, ⟨_, rfl⟩, h9, HK.out.alloc' _⟩
  have b3 : (op == 3) = false := by simpa using h3
  by_cases h5 : op = 5
  · subst h5
    go_enter Tryd.func56, Tryd.ntmps56
    go_wp2_with fail
    go_ret
    have h9 := cells_new (w.alloc (.cells #[.int .i64 5, .int .i64 a, .int .i64 b, .int .i64 c, .int .i64 nn, .slice A2 args.length ca2, .int .i64 kk, .int .i64 kn, .string (sb ks), .slice N2 names.length cn2, .int .i64 pf, .int .i64 pl, .int .i64 ex, .bool once] 60)) (ints [a]) 3 (by simp [ints])
    rw [World.size_alloc] at h9
    exact ⟨_, ⟨_, rfl⟩, h9, HK.out.alloc' _⟩
  have b5 : (op == 5) = false := by simpa using h5
  by_cases h6 : op = 6
  · subst h6
    go_enter Tryd.func56, Tryd.ntmps56
    go_wp2_with fail
    go_ret
    have h9 := cells_new (w.alloc (.cells #[.int .i64 6, .int .i64 a, .int .i64 b, .int .i64 c, .int .i64 nn, .slice A2 args.length ca2, .int .i64 kk, .int .i64 kn, .string (sb ks), .slice N2 names.length cn2, .int .i64 pf, .int .i64 pl, .int .i64 ex, .bool once] 60)) (ints [a]) 3 (by simp [ints])
    rw [World.size_alloc] at h9
    exact ⟨_, ⟨_, rfl⟩, h9, HK.out.alloc' _⟩
  have b6 : (op == 6) = false := by simpa using h6
  by_cases h7 : op = 7
  · subst h7
    go_enter Tryd.func56, Tryd.ntmps56
    go_wp2_with fail
    go_ret
    have h9 := cells_new (w.alloc (.cells #[.int .i64 7, .int .i64 a, .int .i64 b, .int .i64 c, .int .i64 nn, .slice A2 args.length ca2, .int .i64 kk, .int .i64 kn, .string (sb ks), .slice N2 names.length cn2, .int .i64 pf, .int .i64 pl, .int .i64 ex, .bool once] 60)) (ints [a]) 3 (by simp [ints])
    rw [World.size_alloc] at h9
    exact ⟨_, ⟨_, rfl⟩, h9, HK.out.alloc' _⟩
  have b7 : (op == 7) = false := by simpa using h7
  by_cases h8 : op = 8
  · subst h8
    go_enter Tryd.func56, Tryd.ntmps56
    go_wp2_with fail
    go_ret
    have h9 := cells_new (w.alloc (.cells #[.int .i64 8, .int .i64 a, .int .i64 b, .int .i64 c, .int .i64 nn, .slice A2 args.length ca2, .int .i64 kk, .int .i64 kn, .string (sb ks), .slice N2 names.length cn2, .int .i64 pf, .int .i64 pl, .int .i64 ex, .bool once] 60)) (ints [a]) 3 (by simp [ints])
    rw [World.size_alloc] at h9
    exact ⟨_, ⟨_, rfl⟩, h9, HK.out.alloc' _⟩
  have b8 : (op == 8) = false := by simpa using h8
  by_cases h10 : op = 10
  · subst h10
    go_enter Tryd.func56, Tryd.ntmps56
    go_wp2_with fail
    go_ret
    have h9 := cells_new (w.alloc (.cells #[.int .i64 10, .int .i64 a, .int .i64 b, .int .i64 c, .int .i64 nn, .slice A2 args.length ca2, .int .i64 kk, .int .i64 kn, .string (sb ks), .slice N2 names.length cn2, .int .i64 pf, .int .i64 pl, .int .i64 ex, .bool once] 60)) (ints [a]) 3 (by simp [ints])
    rw [World.size_alloc] at h9
    exact ⟨_, ⟨_, rfl⟩, h9, HK.out.alloc' _⟩
  have b10 : (op == 10) = false := by simpa using h10
  by_cases h14 : op = 14
  · subst h14
    go_enter Tryd.func56, Tryd.ntmps56
    go_wp2_with fail
    go_ret
    have h9 := cells_new (w.alloc (.cells #[.int .i64 14, .int .i64 a, .int .i64 b, .int .i64 c, .int .i64 nn, .slice A2 args.length ca2, .int .i64 kk, .int .i64 kn, .string (sb ks), .slice N2 names.length cn2, .int .i64 pf, .int .i64 pl, .int .i64 ex, .bool once] 60)) (ints [a]) 3 (by simp [ints])
    rw [World.size_alloc] at h9
    exact ⟨_, ⟨_, rfl⟩, h9, HK.out.alloc' _⟩
  have b14 : (op == 14) = false := by simpa using h14
  by_cases h19 : op = 19
  · subst h19
    go_enter Tryd.func56, Tryd.ntmps56
    go_wp2_with fail
    go_ret
    have h9 := cells_new (w.alloc (.cells #[.int .i64 19, .int .i64 a, .int .i64 b, .int .i64 c, .int .i64 nn, .slice A2 args.length ca2, .int .i64 kk, .int .i64 kn, .string (sb ks), .slice N2 names.length cn2, .int .i64 pf, .int .i64 pl, .int .i64 ex, .bool once] 60)) (ints [a]) 3 (by simp [ints])
    rw [World.size_alloc] at h9
    exact ⟨_, ⟨_, rfl⟩, h9, HK.out.alloc' _⟩
  have b19 : (op == 19) = false := by simpa using h19
  by_cases h4 : op = 4
  · subst h4
    go_enter Tryd.func56, Tryd.ntmps56
    go_wp2_with fail
    go_ret
    have h9 := cells_new (w.alloc (.cells #[.int .i64 4, .int .i64 a, .int .i64 b, .int .i64 c, .int .i64 nn, .slice A2 args.length ca2, .int .i64 kk, .int .i64 kn, .string (sb ks), .slice N2 names.length cn2, .int .i64 pf, .int .i64 pl, .int .i64 ex, .bool once] 60)) (ints [a, b]) 3 (by simp [ints])
    rw [World.size_alloc] at h9
    exact ⟨_, ⟨_, rfl⟩, h9, HK.out.alloc' _⟩
  have b4 : (op == 4) = false := by simpa using h4
  by_cases h9 : op = 9
  · subst h9
    go_enter Tryd.func56, Tryd.ntmps56
    go_wp2_with fail
    go_ret
    have h9 := cells_new (w.alloc (.cells #[.int .i64 9, .int .i64 a, .int .i64 b, .int .i64 c, .int .i64 nn, .slice A2 args.length ca2, .int .i64 kk, .int .i64 kn, .string (sb ks), .slice N2 names.length cn2, .int .i64 pf, .int .i64 pl, .int .i64 ex, .bool once] 60)) (ints [a, b]) 3 (by simp [ints])
    rw [World.size_alloc] at h9
    exact ⟨_, ⟨_, rfl⟩, h9, HK.out.alloc' _⟩
  have b9 : (op == 9) = false := by simpa using h9
  by_cases h12 : op = 12
  · subst h12
    go_enter Tryd.func56, Tryd.ntmps56
    go_wp2_with fail
    go_ret
    have h9 := cells_new (w.alloc (.cells #[.int .i64 12, .int .i64 a, .int .i64 b, .int .i64 c, .int .i64 nn, .slice A2 args.length ca2, .int .i64 kk, .int .i64 kn, .string (sb ks), .slice N2 names.length cn2, .int .i64 pf, .int .i64 pl, .int .i64 ex, .bool once] 60)) (ints [a, b]) 3 (by simp [ints])
    rw [World.size_alloc] at h9
    exact ⟨_, ⟨_, rfl⟩, h9, HK.out.alloc' _⟩
  have b12 : (op == 12) = false := by simpa using h12
  by_cases h11 : op = 11
  · subst h11
    go_enter Tryd.func56, Tryd.ntmps56
    go_wp2_with fail
    go_ret
    have h9 := cells_new (w.alloc (.cells #[.int .i64 11, .int .i64 a, .int .i64 b, .int .i64 c, .int .i64 nn, .slice A2 args.length ca2, .int .i64 kk, .int .i64 kn, .string (sb ks), .slice N2 names.length cn2, .int .i64 pf, .int .i64 pl, .int .i64 ex, .bool once] 60)) (ints [a, b]) 3 (by simp [ints])
    rw [World.size_alloc] at h9
    exact ⟨_, ⟨_, rfl⟩, h9, HK.out.alloc' _⟩
  have b11 : (op == 11) = false := by simpa using h11
  by_cases h13 : op = 13
  · subst h13
    go_enter Tryd.func56, Tryd.ntmps56
    go_wp2_with fail
    go_ret
    have h9 := cells_new (w.alloc (.cells #[.int .i64 13, .int .i64 a, .int .i64 b, .int .i64 c, .int .i64 nn, .slice A2 args.length ca2, .int .i64 kk, .int .i64 kn, .string (sb ks), .slice N2 names.length cn2, .int .i64 pf, .int .i64 pl, .int .i64 ex, .bool once] 60)) (ints [a, b, c]) 3 (by simp [ints])
    rw [World.size_alloc] at h9
    exact ⟨_, ⟨_, rfl⟩, h9, HK.out.alloc' _⟩
  have b13 : (op == 13) = false := by simpa using h13
  by_cases h20 : op = 20
  · subst h20
    go_enter Tryd.func56, Tryd.ntmps56
    go_wp2_with fail
    go_ret
    exact ⟨_, ⟨_, rfl⟩, (HF.out.quiet HK.out).1, HK.out⟩
  have b20 : (op == 20) = false := by simpa using h20
  simp only [b3, b5, b6, b7, b8, b10, b14, b19, b4, b9, b12, b11, b13, b20, Bool.or_false, Bool.false_eq_true, if_false]
  go_enter Tryd.func56, Tryd.ntmps56
  go_wp2_with fail
  go_ret
  exact ⟨_, ⟨_, rfl⟩, CellsAt.nil _ _, HK.out⟩
end Go.Proofs.YtnbpgipbfejllaaDoor
/- graph: an instruction is added to a builder. -/
namespace Go.Proofs.YtnbpgipbfejllaaDoor
open Go.RowKit Go.Lib
set_option linter.unusedVariables false
set_option linter.unusedSimpArgs false

def z14 : Array Value := #[.int .i64 0, .int .i64 0, .int .i64 0, .int .i64 0, .int .i64 0, .slice none 0 0, .int .i64 0, .int .i64 0, .string ⟨#[]⟩, .slice none 0 0, .int .i64 0, .int .i64 0, .int .i64 0, .bool false]
theorem TI.info : (Tryd.prog.info? 60).map (fun i => (i.zero, i.size, i.bytes)) = some (some (.agg z14), 14, 152) := by kernel_rfl
theorem own_keep' {w w' : World} {r : Option Nat} (h : w.grownBy w' r) : Keep (fun i => r = some i) w w' := (Keep.refl _ w).grown h (fun k e => .inl e)
theorem rowI_snoc (R : List RI) (r : RI) : rowI (R ++ [r]) = rowI R ++ r.cells := by
  show rowG RI.cells (R ++ [r]) = _
  rw [rowG_append, rowG_one]
theorem RI.one (r : RI) : ∀ y ∈ r.cells, y.oneCell' = true := by
  intro y hy
  unfold RI.cells at hy
  simp only [List.mem_cons, List.not_mem_nil, or_false] at hy
  rcases hy with rfl | rfl | rfl | rfl | rfl | rfl | rfl | rfl | rfl | rfl | rfl | rfl | rfl | rfl <;> rfl
section
variable {n : Nat} {w0 w : World} {p m : Nat} {T : TR} {fu pa : Int} {C : List (Nat × Obj)}
set_option maxRecDepth 100000 in
set_option maxHeartbeats 16000000 in
theorem add_any (h : BD n w0 p m T fu pa C w) (r : RI) (hf : r.Fits w) (hl : T.ins.length ≤ 1000) :
    Calls Tryd.prog 74 #[.pointer (some ⟨p, 0, none⟩), .agg r.cells.toArray] w fun e w' => e = .returned (.int .i64 ((T.ins.length : Nat) : Int)) ∧ BD n w0 p m { T with ins := T.ins ++ [r.x] } fu pa C w' := by
  obtain ⟨A, ca, E, ce, R, X, h⟩ := h
  have hRT : R.length = T.ins.length := by rw [← h.ins, List.length_map]
  obtain ⟨j, hj⟩ : ∃ j, R.length = j := ⟨_, rfl⟩
  have K1 := Lib.hid ((Keep.refl (fun _ => False) w).alloc' (.cells r.cells.toArray 60))
  have H1 := Lib.hid (h.away K1.out (fun _ hh => hh.elim))
  have HF := Lib.hid hf
  have HX14 := Lib.hid r.one
  have HC14 : Hid (r.cells.length = 14) := Lib.hid rfl
  have HRT := Lib.hid hRT
  have hjl : j ≤ 1000 := by omega
  rw [← hRT, hj]
  have HJ := Lib.hid hj
  obtain ⟨x, A2, ca2, N2, cn2⟩ := r
  obtain ⟨op, a, b, c, nn, args, kk, kn, ks, names, pf, pl, ex, once⟩ := x
  have HCE : Hid ((RI.cells ⟨⟨op, a, b, c, nn, args, kk, kn, ks, names, pf, pl, ex, once⟩, A2, ca2, N2, cn2⟩) = [.int .i64 op, .int .i64 a, .int .i64 b, .int .i64 c, .int .i64 nn, .slice A2 args.length ca2, .int .i64 kk, .int .i64 kn, .string (sb ks), .slice N2 names.length cn2, .int .i64 pf, .int .i64 pl, .int .i64 ex, .bool once]) := Lib.hid rfl
  rw [HCE.out] at HX14 HC14 K1 H1 ⊢
  have HBN := Lib.hid (heap_alloc_new w (.cells [.int .i64 op, .int .i64 a, .int .i64 b, .int .i64 c, .int .i64 nn, .slice A2 args.length ca2, .int .i64 kk, .int .i64 kn, .string (sb ks), .slice N2 names.length cn2, .int .i64 pf, .int .i64 pl, .int .i64 ex, .bool once].toArray 60))
  have HB := Lib.hid h
  clear h hf hRT hj
  go_enter Tryd.func74, Tryd.ntmps74
  go_upto_region 1 with (fail)
  obtain ⟨w2, hw2⟩ : ∃ w2 : World, w.alloc (.cells #[.int .i64 op, .int .i64 a, .int .i64 b, .int .i64 c, .int .i64 nn, .slice A2 args.length ca2, .int .i64 kk, .int .i64 kn, .string (sb ks), .slice N2 names.length cn2, .int .i64 pf, .int .i64 pl, .int .i64 ex, .bool once] 60) = w2 := ⟨_, rfl⟩
  obtain ⟨B, hB⟩ : ∃ B, w.heap.size = B := ⟨_, rfl⟩
  change Hid (Keep (fun _ => False) w (w.alloc (.cells #[.int .i64 op, .int .i64 a, .int .i64 b, .int .i64 c, .int .i64 nn, .slice A2 args.length ca2, .int .i64 kk, .int .i64 kn, .string (sb ks), .slice N2 names.length cn2, .int .i64 pf, .int .i64 pl, .int .i64 ex, .bool once] 60))) at K1
  change Hid (BDat n w0 p m T fu pa C (w.alloc (.cells #[.int .i64 op, .int .i64 a, .int .i64 b, .int .i64 c, .int .i64 nn, .slice A2 args.length ca2, .int .i64 kk, .int .i64 kn, .string (sb ks), .slice N2 names.length cn2, .int .i64 pf, .int .i64 pl, .int .i64 ex, .bool once] 60)) A ca E ce R X) at H1
  change Hid ((w.alloc (.cells #[.int .i64 op, .int .i64 a, .int .i64 b, .int .i64 c, .int .i64 nn, .slice A2 args.length ca2, .int .i64 kk, .int .i64 kn, .string (sb ks), .slice N2 names.length cn2, .int .i64 pf, .int .i64 pl, .int .i64 ex, .bool once] 60)).heap[w.heap.size]? = some (.cells #[.int .i64 op, .int .i64 a, .int .i64 b, .int .i64 c, .int .i64 nn, .slice A2 args.length ca2, .int .i64 kk, .int .i64 kn, .string (sb ks), .slice N2 names.length cn2, .int .i64 pf, .int .i64 pl, .int .i64 ex, .bool once] 60 (0, 0))) at HBN
  rw [hw2] at K1 H1 HBN
  rw [hB] at HBN
  try rw [hB]
  try rw [hw2]
  have HD := Lib.hid (H1.out.away (keep_draw (fun _ => False) w2) (fun _ hh => hh.elim))
  obtain ⟨i0, hi, hz0, hz1, hz2⟩ := info_parts TI.info
  have HI := Lib.hid hi
  have HZ0 := Lib.hid hz0
  have HZ1 := Lib.hid hz1
  have HZ2 := Lib.hid hz2
  have hrd := HD.out.rowA
  rw [HJ.out] at hrd
  have HRW := Lib.hid hrd
  have hqd := HD.out.hdr
  rw [HJ.out] at hqd
  have HQD := Lib.hid hqd
  have hbd2 : w2.drew.heap[B]? = _ := HBN.out
  have HNE := Lib.hid (show ∀ k, (Value.slice A j ca).ownBlock = some k → k ≠ p from fun k e => blk_own_ne hqd hrd e (by decide))
  have HNB := Lib.hid (show ∀ k, (Value.slice A j ca).ownBlock = some k → k ≠ B from fun k e => by
    have e1 := own_lt HB.out.rowA k (by rw [HJ.out]; exact e)
    omega)
  have HBD := Lib.hid hbd2
  have hc0d := (blk_cell hqd 3).trans rfl
  have HC0D := Lib.hid hc0d
  have HBS := Lib.hid hB
  have HLOW := Lib.hid (show n ≤ w2.heap.size from Nat.le_trans HD.out.base HD.out.since.size)
  clear hbd2 hc0d hw2 hB
  clear hi hz0 hz1 hz2 hrd hqd
  refine wp_region_drewU (S := (fun w' => Hid (Keep (fun i => (Value.slice A j ca).ownBlock = some i) w2.drew w'))) (D := [9, 10, 11, 12]) (by kernel_rfl) (by exact Lib.hid (Keep.refl _ _)) (fun hH => ?_)
  refine wpAnyU_take (i := 0) (v := ?_) rfl (by kernel_rfl) (by kernel_rfl) (by kernel_rfl) (by kernel_rfl) (fun _ _ _ h => h) (Or.inl ⟨by rfl, ?_⟩) hH ?_
  rotate_left
  · (intro w'' hSw; (try dsimp only at hSw); go_simp; try with_reducible rfl)
  change wpAnyU _ _ _ _ _ _ _ _ (Act.put _ (some 5) _) _
  try simp only [Act.put, List.setIfInBounds_toArray, List.set_cons_zero, List.set_cons_succ]
  refine wpAnyU_take (i := 1) (v := ?_) rfl (by kernel_rfl) (by kernel_rfl) (by kernel_rfl) (by kernel_rfl) (fun _ _ _ h => h) (Or.inl ⟨by rfl, ?_⟩) hH ?_
  rotate_left
  · (intro w'' hSw; (try dsimp only at hSw); go_simp; try with_reducible rfl)
  change wpAnyU _ _ _ _ _ _ _ _ (Act.put _ (some 6) _) _
  try simp only [Act.put, List.setIfInBounds_toArray, List.set_cons_zero, List.set_cons_succ]
  refine wpAnyU_take (i := 2) (v := ?_) rfl (by kernel_rfl) (by kernel_rfl) (by kernel_rfl) (by kernel_rfl) (fun _ _ _ h => h) (Or.inl ⟨by rfl, ?_⟩) hH ?_
  rotate_left
  · (intro w'' hSw; (try dsimp only at hSw); go_simp; try with_reducible rfl)
  change wpAnyU _ _ _ _ _ _ _ _ (Act.put _ (some 7) _) _
  try simp only [Act.put, List.setIfInBounds_toArray, List.set_cons_zero, List.set_cons_succ]
  refine wpAnyU_take (i := 3) (v := ?_) rfl (by kernel_rfl) (by kernel_rfl) (by kernel_rfl) (by kernel_rfl) (fun _ _ _ h => h) (Or.inl ⟨by rfl, ?_⟩) hH ?_
  rotate_left
  · (intro w'' hSw; (try dsimp only at hSw); go_simp; try with_reducible rfl)
  change wpAnyU _ _ _ _ _ _ _ _ (Act.put _ (some 8) _) _
  try simp only [Act.put, List.setIfInBounds_toArray, List.set_cons_zero, List.set_cons_succ]
  refine wpAnyU_take (i := 4) (v := ?_) rfl (by kernel_rfl) (by kernel_rfl) (by kernel_rfl) (by kernel_rfl) (fun _ _ _ h => h) (Or.inl ⟨by rfl, ?_⟩) hH ?_
  rotate_left
  · (intro w'' hSw; (try dsimp only at hSw); go_simp; try with_reducible rfl)
  change wpAnyU _ _ _ _ _ _ _ _ (Act.put _ (some 9) _) _
  try simp only [Act.put, List.setIfInBounds_toArray, List.set_cons_zero, List.set_cons_succ]
  refine wpAnyU_take (i := 5) (v := ?_) rfl (by kernel_rfl) (by kernel_rfl) (by kernel_rfl) (by kernel_rfl) (fun _ _ _ h => h) (Or.inl ⟨by rfl, ?_⟩) hH ?_
  rotate_left
  · (intro w'' hSw; have q := cell_kept hSw.out HC0D.out (fun e => HNE.out _ e rfl); go_simp; try with_reducible rfl)
  change wpAnyU _ _ _ _ _ _ _ _ (Act.put _ (some 10) _) _
  try simp only [Act.put, List.setIfInBounds_toArray, List.set_cons_zero, List.set_cons_succ]
  refine wpAnyU_take (i := 6) (v := ?_) rfl (by kernel_rfl) (by kernel_rfl) (by kernel_rfl) (by kernel_rfl) (fun _ _ _ h => h) (Or.inl ⟨by rfl, ?_⟩) hH ?_
  rotate_left
  · (intro w'' hSw; have hb := (hSw.out.block B (blk_lt HBD.out) (fun e => HNB.out _ e rfl)).trans HBD.out; have z0 : w''.cell? ⟨B, 0, none⟩ = some (.int .i64 op) := (blk_cell hb 0).trans rfl; have z1 : w''.cell? ⟨B, 1, none⟩ = some (.int .i64 a) := (blk_cell hb 1).trans rfl; have z2 : w''.cell? ⟨B, 2, none⟩ = some (.int .i64 b) := (blk_cell hb 2).trans rfl; have z3 : w''.cell? ⟨B, 3, none⟩ = some (.int .i64 c) := (blk_cell hb 3).trans rfl; have z4 : w''.cell? ⟨B, 4, none⟩ = some (.int .i64 nn) := (blk_cell hb 4).trans rfl; have z5 : w''.cell? ⟨B, 5, none⟩ = some (.slice A2 args.length ca2) := (blk_cell hb 5).trans rfl; have z6 : w''.cell? ⟨B, 6, none⟩ = some (.int .i64 kk) := (blk_cell hb 6).trans rfl; have z7 : w''.cell? ⟨B, 7, none⟩ = some (.int .i64 kn) := (blk_cell hb 7).trans rfl; have z8 : w''.cell? ⟨B, 8, none⟩ = some (.string (sb ks)) := (blk_cell hb 8).trans rfl; have z9 : w''.cell? ⟨B, 9, none⟩ = some (.slice N2 names.length cn2) := (blk_cell hb 9).trans rfl; have z10 : w''.cell? ⟨B, 10, none⟩ = some (.int .i64 pf) := (blk_cell hb 10).trans rfl; have z11 : w''.cell? ⟨B, 11, none⟩ = some (.int .i64 pl) := (blk_cell hb 11).trans rfl; have z12 : w''.cell? ⟨B, 12, none⟩ = some (.int .i64 ex) := (blk_cell hb 12).trans rfl; have z13 : w''.cell? ⟨B, 13, none⟩ = some (.bool once) := (blk_cell hb 13).trans rfl; clear hb; go_simp; try with_reducible rfl)
  change wpAnyU _ _ _ _ _ _ _ _ (Act.put _ (some 11) _) _
  try simp only [Act.put, List.setIfInBounds_toArray, List.set_cons_zero, List.set_cons_succ]
  refine wpAnyU_ready (rs := [7]) (by kernel_rfl) (by simp) ?_
  refine AllReadyU.cons rfl (fun Kn hKn => ?_) AllReadyU.nil
  go_simp
  refine hKn.out _ _ ?_ (fun hH => ?_)
  · (exact Lib.hid (Keep.trans hH.out (Keep.mono ((Keep.refl (fun _ => False) _).alloc' _) (fun _ => False.elim))))
  clear hKn Kn
  try simp only [Act.put, List.setIfInBounds_toArray, List.set_cons_zero, List.set_cons_succ]
  refine wpAnyU_ready (rs := [8]) (by kernel_rfl) (by simp) ?_
  refine AllReadyU.cons rfl (fun Kn hKn => ?_) AllReadyU.nil
  refine wp_append_lies _ (.tmp 10) (.tmp 12) 28 rfl n 60 i0 _ 14 152 Tryd.underlying28 HI.out HZ0.out HZ1.out HZ2.out rfl (by decide) (.slice A j ca) j (rowI R) rfl (HRW.out.alloc _) ⟨_, 0, none⟩ 1 1 _ rfl rfl (by exact World.news_of_block (heap_alloc_new _ _)) (by exact HX14.out) (by omega) (by unfold maxLen; omega) (by omega) (by have := HLOW.out; simp at this ⊢; omega) _ rfl ?_
  intro g cap w4 hown hgrow hat hlt
  have HOWN := Lib.hid hown
  have HAT := Lib.hid hat
  have HK4 := Lib.hid (Keep.trans (Keep.mono ((Keep.refl (fun _ => False) w2.drew).alloc' _) (fun _ => False.elim)) (own_keep' hgrow))
  have HQ4 := Lib.hid ((HK4.out.block p (blk_lt HQD.out) (fun e => HNE.out _ e rfl)).trans HQD.out)
  clear hown hgrow hat hlt
  refine hKn.out _ _ ?_ (fun hH => ?_)
  · (exact HK4)
  clear hKn Kn
  try simp only [Act.put, List.setIfInBounds_toArray, List.set_cons_zero, List.set_cons_succ]
  refine wpAnyU_pure (i := 9) (v := ?_) rfl (by kernel_rfl) (by kernel_rfl) (by kernel_rfl) (by rfl) (fun _ _ _ h => h) (Or.inl ⟨by rfl, ?_⟩) ?_
  rotate_left
  · (intro w'' _; go_simp; try with_reducible rfl)
  change wpAnyU _ _ _ _ _ _ _ _ (Act.put _ (some 14) _) _
  try simp only [Act.put, List.setIfInBounds_toArray, List.set_cons_zero, List.set_cons_succ]
  refine wpAnyU_pure (i := 10) (v := ?_) rfl (by kernel_rfl) (by kernel_rfl) (by kernel_rfl) (by rfl) (fun _ _ _ h => h) (Or.inl ⟨by rfl, ?_⟩) ?_
  rotate_left
  · (intro w'' _; go_simp; try with_reducible rfl)
  change wpAnyU _ _ _ _ _ _ _ _ (Act.put _ (some 15) _) _
  try simp only [Act.put, List.setIfInBounds_toArray, List.set_cons_zero, List.set_cons_succ]
  refine wpAnyU_pure (i := 11) (v := ?_) rfl (by kernel_rfl) (by kernel_rfl) (by kernel_rfl) (by rfl) (fun _ _ _ h => h) (Or.inl ⟨by rfl, ?_⟩) ?_
  rotate_left
  · (intro w'' _; go_simp; try with_reducible rfl)
  change wpAnyU _ _ _ _ _ _ _ _ (Act.put _ (some 16) _) _
  try simp only [Act.put, List.setIfInBounds_toArray, List.set_cons_zero, List.set_cons_succ]
  refine wpAnyU_ready (rs := [12]) (by kernel_rfl) (by simp) ?_
  refine AllReadyU.last rfl (by rfl) (fun Kn hKn => ?_) AllReadyU.nil
  go_simp
  have q0 := (blk_cell HQ4.out 3).trans rfl
  have f0 := blk_free HQ4.out 3
  go_simp
  refine hKn.out _ _ ?_
  clear hKn Kn
  try simp only [Act.put, List.setIfInBounds_toArray, List.set_cons_zero, List.set_cons_succ]
  refine wpAnyU_done (by kernel_rfl) ?_ _
  obtain ⟨w5, hw5⟩ : ∃ w5 : World, w4.setCell ⟨p, 3, none⟩ (.slice (some ⟨g, 0, none⟩) (j + 1) cap) = w5 := ⟨_, rfl⟩
  have hq5 := blk_set HQ4.out 3 (.slice (some ⟨g, 0, none⟩) (j + 1) cap)
  rw [hw5] at hq5
  have d0 := (blk_cell hq5 3).trans rfl
  have HFIN := Lib.hid (show BD n w0 p m { T with ins := T.ins ++ [⟨op, a, b, c, nn, args, kk, kn, ks, names, pf, pl, ex, once⟩] } fu pa C w5 from by
    have hk5 : Keep (fun i => i = p ∨ (Value.slice A j ca).ownBlock = some i) w2.drew w5 := by rw [← hw5]; exact Keep.trans (Keep.mono HK4.out (fun _ => .inr)) (Keep.mono (keep_set (Keep.refl (fun i => i = p) w4) 3 _) (fun _ => .inl))
    have hRj := HJ.out
    have hne : ∀ t : TypeId, t ≠ 127 → t ≠ 60 → ∀ k cur, w2.drew.heap[k]? = some (.cells cur t (0, 0)) → ¬ (k = p ∨ (Value.slice A j ca).ownBlock = some k) := by
      rintro t ht1 ht2 k cur hk (rfl | e)
      · rw [HQD.out] at hk; injection hk with hk; injection hk with _ e; exact ht1 e.symm
      · exact blk_own_ne hk HRW.out e ht2 rfl
    obtain ⟨cm, hcm⟩ := HD.out.num.obj
    have hfr : RI.Fits w5 ⟨⟨op, a, b, c, nn, args, kk, kn, ks, names, pf, pl, ex, once⟩, A2, ca2, N2, cn2⟩ := (RI.Fits.keep HF.out (Keep.trans K1.out (keep_draw (fun _ => False) w2)) (fun _ _ _ => id) (fun _ _ _ => id)).keep hk5 (hne _ (by decide) (by decide)) (hne _ (by decide) (by decide))
    refine ⟨some ⟨g, 0, none⟩, cap, E, ce, R ++ [⟨⟨op, a, b, c, nn, args, kk, kn, ks, names, pf, pl, ex, once⟩, A2, ca2, N2, cn2⟩], X, HD.out.turn hk5 (fun k hk => ?_) ?_ ?_ ?_ ?_ (fun r hr => ?_) (fun r hr => .inl hr) ?_ HD.out.exits (fun k e => ?_) (fun k e => .inl e)⟩
    · rcases hk with rfl | e
      · exact .inl (.inl rfl)
      · exact .inl (.inr (.inr (.inl (by rw [hRj]; exact e))))
    · rw [List.length_append, hRj]
      exact hq5
    · refine HD.out.num.keep hk5 (hne _ (by decide) (by decide) m cm hcm) (fun k hk => ?_)
      rcases hk with rfl | e
      · exact HD.out.low
      · exact (HRW.out.lt k e).1
    · rw [List.length_append, hRj, rowI_snoc]
      rw [← hw5]
      exact (keep_set (Keep.refl (fun i => i = p) w4) 3 _).own HOWN.out (fun i e => by
        obtain ⟨cur, hc⟩ := own_type HOWN.out e
        exact fun e2 => by subst e2; rw [HQ4.out] at hc; injection hc with hc; injection hc with _ e3; revert e3; decide)
    · refine hk5.own HD.out.rowE (fun k e => ?_)
      obtain ⟨cur, hc⟩ := own_type HD.out.rowE e
      exact hne _ (by decide) (by decide) k cur hc
    · rcases List.mem_append.1 hr with hr | hr
      · exact .inl hr
      · obtain rfl := List.mem_singleton.1 hr
        exact .inr hfr
    · rw [List.map_append, HD.out.ins]
      rfl
    · rw [hRj]
      rw [List.length_append, hRj] at e
      rcases HAT.out with e3 | e3
      · exact .inl (e3.trans (by simpa [Value.ownBlock] using e))
      · refine .inr ?_
        have : g = k := by simpa [Value.ownBlock] using e
        rw [← this, e3]
        simp)
  rw [hw5]
  clear hq5 hw5
  go_wp2_with fail
  go_ret
  exact ⟨by go_num, HFIN.out⟩
end
end Go.Proofs.YtnbpgipbfejllaaDoor
/- append of any source onto an owned row, at an operation that stands under a guard. -/
namespace Go.Proofs.YtnbpgipbfejllaaDoor
open Go.RowKit
set_option linter.unusedVariables false

theorem oper_append_src {P : Program} {w : World} {o : Oper} {a : Act} {K : Act → World → Prop} {Q : Exit → Act → World → Prop}
    (t e : TypeId) (z : Value) (bytes base : Nat) (T : OneTy P t e z bytes) (s x : Operand)
    (ho : o.op = .call { callee := .builtin .append, args := #[s, x], argTypes := #[t, t] })
    (v : Value) (n : Nat) (xs : List Value) (hs : a.eval s = v) (hown : w.ownsRow base e 1 v n xs)
    (A : Option Addr) (m c : Nat) (news : List Value) (hx : a.eval x = .slice A m c) (hnone : A = none → m = 0 ∧ c = 0) (hsrc : CellsAt w A m news) (h1 : ∀ u ∈ news, u.oneCell' = true)
    (hbytes : (n + m) * bytes ≤ 140737488355328) (hb0 : 0 < bytes) (hbase : base ≤ w.heap.size)
    (h : ∀ A' c' w', w'.ownsRow base e 1 (.slice A' (n + m) c') (n + m) (xs ++ news) → w.grownBy w' v.ownBlock → ((Value.slice A' (n + m) c').ownBlock = v.ownBlock ∨ (Value.slice A' (n + m) c').ownBlock = some w.heap.size) → K (a.put o.dst (.slice A' (n + m) c')) w') :
    Oper.wp P o a w K Q := by
  obtain ⟨i, hi, hz0, hz1, hz2⟩ := info_parts T.info
  have hlen : n + m ≤ 140737488355328 := Nat.le_trans (Nat.le_mul_of_pos_right _ hb0) hbytes
  obtain ⟨A0, c0, rfl⟩ := own_slice hown
  cases A with
  | none =>
    obtain ⟨rfl, rfl⟩ := hnone rfl
    obtain rfl : news = [] := List.eq_nil_of_length_eq_zero hsrc.1
    have hrun := run_append_owned_none (P := P) (w := w) base t o.type e i 1 T.ht hi _ n xs hown
    unfold Oper.wp
    simp [execOp, ho, resolve, invoke, builtin, hs, hx, hrun, Result.andThen]
    exact h A0 c0 w (by simpa using hown) (World.grownBy.refl _ _) (.inl rfl)
  | some ad =>
    obtain ⟨v', w', hr, h2, h3, h4, h5⟩ := run_append_own_at (P := P) w base t o.type e i z 1 bytes T.ht hi hz0 hz1 hz2 T.hz (by omega) _ n xs hown ad m c news (by simpa using hsrc.1) (by
      intro j u hu
      have hj : j < m := by have := (List.getElem?_eq_some_iff.1 hu).1; rwa [hsrc.1] at this
      obtain ⟨b, off, e1, _, hc⟩ := hsrc.2.2 (by omega)
      obtain rfl := Option.some.inj e1
      rw [Addr.add_lit, hc j hj]
      exact hu) h1 (by unfold maxLen; omega) hbytes hbase
    obtain ⟨A', c', rfl⟩ := own_slice h2
    unfold Oper.wp execOp
    simp only [ho, resolve, invoke, builtin, Sem.run_bind, Sem.run_pure, Result.andThen_ok, List.map_toArray, List.map_cons, List.map_nil, hs, hx, hr]
    exact h A' c' w' h2 h3 h5
theorem wpList_append_want {P : Program} {w : World} {ops : Array Oper} {rest : List Oper} {o : Oper} {a : Act} {Q : Exit → Act → World → Prop} (hw : Region.wanted o (yielded ops a.tmps) = true)
    (t e : TypeId) (z : Value) (bytes base : Nat) (T : OneTy P t e z bytes) (s x : Operand)
    (ho : o.op = .call { callee := .builtin .append, args := #[s, x], argTypes := #[t, t] })
    (v : Value) (n : Nat) (xs : List Value) (hs : a.eval s = v) (hown : w.ownsRow base e 1 v n xs)
    (A : Option Addr) (m c : Nat) (news : List Value) (hx : a.eval x = .slice A m c) (hnone : A = none → m = 0 ∧ c = 0) (hsrc : CellsAt w A m news) (h1 : ∀ u ∈ news, u.oneCell' = true)
    (hbytes : (n + m) * bytes ≤ 140737488355328) (hb0 : 0 < bytes) (hbase : base ≤ w.heap.size)
    (h : ∀ A' c' w', w'.ownsRow base e 1 (.slice A' (n + m) c') (n + m) (xs ++ news) → w.grownBy w' v.ownBlock → ((Value.slice A' (n + m) c').ownBlock = v.ownBlock ∨ (Value.slice A' (n + m) c').ownBlock = some w.heap.size) → wpList P ops Q rest (a.put o.dst (.slice A' (n + m) c')) w') :
    wpList P ops Q (o :: rest) a w := by
  unfold wpList
  rw [if_pos hw]
  exact .inl (oper_append_src t e z bytes base T s x ho v n xs hs hown A m c news hx hnone hsrc h1 hbytes hb0 hbase h)
end Go.Proofs.YtnbpgipbfejllaaDoor
