/- Laws that texts on disks and journals share: what a call may turn; rows of bytes; append of zeros; copy. -/
import Derived.Test.YtnhajhejkecihaaK0
import Derived.Lib.ConvBytes
import Derived.Laws.CopyOwn
import Derived.Lib.AppendZeros
import Derived.Lib.AppendZerosOnto
import Derived.Deep.OwnRows
namespace Go.Proofs.Ytnhajhejkecihaa
open Go.RowKit
set_option linter.unusedVariables false

/-! ### What a call may turn: the blocks of F, and new ones -/
structure Keep (F : Nat → Prop) (w w' : World) : Prop where
  os : w'.os = w.os
  tape : w'.tape = w.tape
  output : w'.output = w.output
  size : w.heap.size ≤ w'.heap.size
  block : ∀ k, k < w.heap.size → ¬ F k → w'.heap[k]? = w.heap[k]?
theorem Keep.refl (F : Nat → Prop) (w : World) : Keep F w w := ⟨rfl, rfl, rfl, Nat.le_refl _, fun _ _ _ => rfl⟩
theorem Keep.trans {F : Nat → Prop} {a b c : World} (h : Keep F a b) (k : Keep F b c) : Keep F a c :=
  ⟨k.os.trans h.os, k.tape.trans h.tape, k.output.trans h.output, Nat.le_trans h.size k.size, fun i hi hf => (k.block i (Nat.lt_of_lt_of_le hi h.size) hf).trans (h.block i hi hf)⟩
/-- The second step may turn what the first has made, too. -/
theorem Keep.then {F F' : Nat → Prop} {a b c : World} (h : Keep F a b) (k : Keep F' b c) (hF : ∀ i, F' i → F i ∨ a.heap.size ≤ i) : Keep F a c :=
  ⟨k.os.trans h.os, k.tape.trans h.tape, k.output.trans h.output, Nat.le_trans h.size k.size, fun i hi hf => (k.block i (Nat.lt_of_lt_of_le hi h.size) (fun h' => by rcases hF i h' with h1 | h1; exact hf h1; omega)).trans (h.block i hi hf)⟩
theorem Keep.mono {F F' : Nat → Prop} {w w' : World} (h : Keep F w w') (hF : ∀ i, F i → F' i) : Keep F' w w' := ⟨h.os, h.tape, h.output, h.size, fun i hi hf => h.block i hi (fun h' => hf (hF i h'))⟩
theorem Keep.of_below {F : Nat → Prop} {w w' : World} (h : Below w.heap.size w w') : Keep F w w' := ⟨h.os, h.tape, h.output, h.size, fun i hi _ => h.block i hi⟩
theorem Keep.below {F : Nat → Prop} {w w' : World} {B : Nat} (h : Keep F w w') (hF : ∀ i, F i → B ≤ i) (hB : B ≤ w.heap.size) : Below B w w' :=
  ⟨h.os, h.tape, h.output, h.size, fun i hi => h.block i (by omega) (fun h' => by have := hF i h'; omega)⟩
theorem Keep.drewN {F : Nat → Prop} {w w' : World} (h : Keep F w w') (n : Nat) : Keep F w (w'.drewN n) := ⟨h.os, h.tape, h.output, h.size, h.block⟩
theorem Keep.drew {F : Nat → Prop} {w w' : World} (h : Keep F w w') : Keep F w w'.drew := ⟨h.os, h.tape, h.output, h.size, h.block⟩
theorem Keep.alloc {F : Nat → Prop} {w w' : World} (h : Keep F w w') (o : Obj) : Keep F w (w'.alloc o) := h.then (Keep.of_below (F := F) (below_alloc o)) (fun _ h => .inl h)
theorem Keep.setCell {F : Nat → Prop} {w w' : World} (h : Keep F w w') {a : Addr} (ha : F a.block ∨ w.heap.size ≤ a.block) (v : Value) : Keep F w (w'.setCell a v) :=
  h.then (F' := fun k => k = a.block) ⟨rfl, rfl, rfl, by simp [World.setCell], fun k _ hk => Below.heap_setCell _ _ _ _ hk⟩ (fun i hi => by rw [hi]; exact ha)
theorem Keep.grown {F : Nat → Prop} {w w' w2 : World} {row : Option Nat} (h : Keep F w w') (hg : w'.grownBy w2 row) (hr : ∀ k, row = some k → F k ∨ w.heap.size ≤ k) : Keep F w w2 :=
  h.then (F' := fun k => row = some k) ⟨hg.os, hg.tape, hg.output, hg.size, fun k hk hn => hg.block k hk (fun e => hn e.symm)⟩ hr
theorem Keep.cell {F : Nat → Prop} {w w' : World} (h : Keep F w w') {p : Addr} (hp : p.block < w.heap.size) (hF : ¬ F p.block) : w'.cell? p = w.cell? p := World.cell?_of_block (w := w) (h.block p.block hp hF)
theorem Keep.own {F : Nat → Prop} {w w' : World} {base n size : Nat} {e : TypeId} {v : Value} {xs : List Value} (h : Keep F w w') (ho : w.ownsRow base e size v n xs) (hne : ∀ b, v.ownBlock = some b → ¬ F b) : w'.ownsRow base e size v n xs := by
  obtain ⟨hl, h0 | ⟨g, cap, cur, rfl, hg, hh, hr⟩⟩ := ho
  · exact ⟨hl, .inl h0⟩
  · exact ⟨hl, .inr ⟨g, cap, cur, rfl, hg, (h.block g (Array.getElem?_eq_some_iff.1 hh).1 (hne g rfl)).trans hh, hr⟩⟩
theorem CellsAt.keep {F : Nat → Prop} {w w' : World} {A : Option Addr} {n : Nat} {xs : List Value} (hc : CellsAt w A n xs) (h : Keep F w w') (hne : ∀ b, A = some b → ¬ F b.block) : CellsAt w' A n xs :=
  ⟨hc.1, hc.2.1, fun h0 => let ⟨b, off, e, hl, hx⟩ := hc.2.2 h0; ⟨b, off, e, Nat.lt_of_lt_of_le hl h.size, fun j hj => (h.cell (p := ⟨b, off + j, none⟩) hl (show ¬ F b from hne _ e)).trans (hx j hj)⟩⟩
theorem own_lt {w : World} {base n size : Nat} {e : TypeId} {v : Value} {xs : List Value} (h : w.ownsRow base e size v n xs) : ∀ k, v.ownBlock = some k → k < w.heap.size := fun k hk => (h.lt k hk).2
theorem own_base {w : World} {base n size : Nat} {e : TypeId} {v : Value} {xs : List Value} (h : w.ownsRow base e size v n xs) (base' : Nat) (hb : ∀ k, v.ownBlock = some k → base' ≤ k) : w.ownsRow base' e size v n xs := by
  obtain ⟨hl, h0 | ⟨g, cap, cur, rfl, hg, hr⟩⟩ := h
  · exact ⟨hl, .inl h0⟩
  · exact ⟨hl, .inr ⟨g, cap, cur, rfl, hb g rfl, hr⟩⟩
theorem own_zero {w : World} {base n size : Nat} {e : TypeId} {v : Value} {xs : List Value} (h : w.ownsRow base e size v n xs) : w.ownsRow 0 e size v n xs := own_base h 0 (fun _ _ => Nat.zero_le _)
/-- An owned row's block bears its elements' type. -/
theorem own_type {w : World} {base n size : Nat} {e : TypeId} {v : Value} {xs : List Value} (h : w.ownsRow base e size v n xs) {k : Nat} (hk : v.ownBlock = some k) : ∃ cur, w.heap[k]? = some (.cells cur e (0, 0)) := by
  obtain ⟨hl, ⟨rfl, _⟩ | ⟨g, cap, cur, rfl, hg, hh, _⟩⟩ := h
  · simp [Value.ownBlock] at hk
  · have : g = k := by simpa [Value.ownBlock] using hk
    subst this
    exact ⟨cur, hh⟩
theorem own_slice {w : World} {base n size : Nat} {e : TypeId} {v : Value} {xs : List Value} (h : w.ownsRow base e size v n xs) : ∃ A c, v = .slice A n c := by
  obtain ⟨_, ⟨rfl, rfl⟩ | ⟨g, cap, cur, rfl, _⟩⟩ := h
  · exact ⟨none, 0, rfl⟩
  · exact ⟨_, cap, rfl⟩

/-! ### Bytes -/
def b8 (l : List UInt8) : List Value := l.map fun b => .int .u8 (b.toNat : Int)
theorem b8_length (l : List UInt8) : (b8 l).length = l.length := by simp [b8]
theorem b8_append (l m : List UInt8) : b8 (l ++ m) = b8 l ++ b8 m := by simp [b8]
theorem b8_take (l : List UInt8) (n : Nat) : (b8 l).take n = b8 (l.take n) := by simp [b8]
theorem b8_drop (l : List UInt8) (n : Nat) : (b8 l).drop n = b8 (l.drop n) := by simp [b8]
theorem b8_zeros (n : Nat) : List.replicate n (Value.int .u8 0) = b8 (List.replicate n 0) := by simp [b8]
theorem b8_one (l : List UInt8) : ∀ u ∈ b8 l, u.oneCell' = true := by
  intro u hu
  obtain ⟨_, _, rfl⟩ := List.mem_map.1 hu
  rfl

/-! ### append(v, make([]T, n)...) -/
theorem zeroCells_one (z : Value) (n : Nat) : Builtin.zeroCells #[z] n = (List.replicate n z).toArray := by
  apply Array.ext
  · simp [Builtin.zeroCells]
  · intro i h1 h2
    simp [Builtin.zeroCells, Nat.mod_one]
section
variable {P : Program} (w : World)
theorem run_zeros_room (t tn ty e : TypeId) (i : TypeInfo) (z : Value) (k kn : IntKind) (ht : P.underlying t = some (.slice e)) (htn : P.underlying tn = some (.int kn)) (hi : P.info? e = some i) (hz : i.zero = some z) (hz1 : z.cells = #[z]) (hs : i.size = 1) (hoc : z.oneCell' = true)
    (g sLen sCap : Nat) (cur : Array Value) (hg : w.heap[g]? = some (.cells cur e (0, 0))) (m : Nat) (hm : 0 < m) (hmb : m * i.bytes ≤ 281474976710656) (hm63 : m ≤ 281474976710656) (hroom : sLen + m ≤ sCap) (hfit : sLen + m ≤ cur.size) :
    (Builtin.append_ #[t, tn] ty #[.slice (some ⟨g, 0, none⟩) sLen sCap, .int k m]).run P w =
      .ok (.slice (some ⟨g, 0, none⟩) (sLen + m) sCap) (w.setRow g (cur.toList.take sLen ++ List.replicate m z ++ cur.toList.drop (sLen + m)).toArray) := by
  have hst := run_storeCells_at P g sLen e (List.replicate m z) 0 cur w hg (by simpa using hfit) (by intro u hu; rw [List.eq_of_mem_replicate hu]; exact hoc)
  simp only [Nat.add_zero, List.length_replicate] at hst
  have hw : IntKind.i64.wrap (m : Int) = m := by rw [IntKind.wrap_i64]; omega
  have hneg : ¬ ((m : Int) < 0) := by omega
  have h48i : ¬ (281474976710656 < (m : Int) * (i.bytes : Int)) := by
    rw [← Int.natCast_mul]
    omega
  have hne : ¬ (m = 0) := by omega
  have hzc : Builtin.zeroCells z.cells m = (List.replicate m z).toArray := by rw [hz1]; exact zeroCells_one z m
  simp [Builtin.append_, run_underlying ht, run_underlying htn, sizeOf, typeInfo, zeroValue, hi, hz, asInt, asIntOf, hw, hneg, h48i, hs, hne, hroom, Addr.add_lit, hzc, hst]

theorem run_zeros_own (base : Nat) (t tn ty e : TypeId) (i : TypeInfo) (z : Value) (bytes : Nat) (k kn : IntKind) (ht : P.underlying t = some (.slice e)) (htn : P.underlying tn = some (.int kn)) (hi : P.info? e = some i) (hz : i.zero = some z) (hz1 : z.cells = #[z]) (hs : i.size = 1) (hby : i.bytes = bytes) (hoc : z.oneCell' = true)
    (v : Value) (n : Nat) (xs : List Value) (hown : w.ownsRow base e 1 v n xs) (m : Nat) (hm : 0 < m) (hbytes : (n + m) * bytes ≤ 140737488355328) (hb0 : 0 < bytes) (hbase : base ≤ w.heap.size) :
    ∃ v' w', (Builtin.append_ #[t, tn] ty #[v, .int k m]).run P w = .ok v' w' ∧ w'.ownsRow base e 1 v' (n + m) (xs ++ List.replicate m z) ∧ w.grownBy w' v.ownBlock ∧ (v'.ownBlock = v.ownBlock ∨ v'.ownBlock = some w.heap.size) := by
  subst hby
  have hlen0 : n + m ≤ 140737488355328 := Nat.le_trans (Nat.le_mul_of_pos_right _ hb0) hbytes
  have h63 : n + m ≤ maxLen := by unfold maxLen; omega
  have hmb : m * i.bytes ≤ 281474976710656 := by
    have : m * i.bytes ≤ (n + m) * i.bytes := Nat.mul_le_mul_right _ (by omega)
    omega
  have hlen : (xs ++ List.replicate m z).length = (n + m) * 1 := by rw [List.length_append, hown.1, List.length_replicate]; omega
  have hzc : ∀ q, Builtin.zeroCells z.cells q = (List.replicate q z).toArray := fun q => by rw [hz1]; exact zeroCells_one z q
  have grown : ∀ (old : Nat), old < n + m → ∀ (row : Option Nat),
      (w.drew.alloc (.cells (xs.toArray ++ Builtin.zeroCells z.cells m ++ Builtin.zeroCells z.cells (grownCap w (n + m) old e - (n + m))) e)).ownsRow base e 1
        (.slice (some ⟨w.heap.size, 0, none⟩) (n + m) (grownCap w (n + m) old e)) (n + m) (xs ++ List.replicate m z) ∧
      w.grownBy (w.drew.alloc (.cells (xs.toArray ++ Builtin.zeroCells z.cells m ++ Builtin.zeroCells z.cells (grownCap w (n + m) old e - (n + m))) e)) row := by
    intro old ho row
    have hge := grownCap_ge w (n + m) old e
    have hcm : grownCap w (n + m) old e ≤ maxLen := grownCap_le_maxLen w (n + m) old e h63
    refine ⟨⟨hlen, .inr ⟨w.heap.size, _, _, rfl, hbase, heap_alloc_new w.drew _, hge, hcm, ?_, ?_⟩⟩, ⟨rfl, rfl, rfl, by simp, fun k hk _ => Below.heap_alloc w.drew _ k hk⟩⟩
    · have := hown.1
      simp only [hzc, Array.size_append, List.size_toArray, List.length_replicate]
      omega
    · simp only [hzc, Array.toList_append, List.append_assoc]
      rw [← List.append_assoc, ← hlen]
      exact List.take_left
  rcases hown.2 with ⟨rfl, rfl⟩ | ⟨g, cap, cur, rfl, hbg, hg, hnc, hcm, hcs, htake⟩
  · have hx : xs = [] := List.eq_nil_of_length_eq_zero (by simpa using hown.1)
    subst hx
    have hr := Lib.run_append_nil_zeros (P := P) w t tn ty e i z k kn ht htn hi hz m hm (by omega) (by omega) hmb
    have hgr := grown 0 (by omega) (Value.ownBlock (.slice none 0 0))
    simp only [Nat.zero_add, List.nil_append, Array.empty_append] at hgr ⊢
    exact ⟨_, _, hr, hgr.1, hgr.2, .inr rfl⟩
  · by_cases hroom : n + m ≤ cap
    · have hfit : n + m ≤ cur.size := by omega
      have hr := run_zeros_room (P := P) w t tn ty e i z k kn ht htn hi hz hz1 hs hoc g n cap cur hg m hm hmb (by omega) hroom hfit
      refine ⟨_, _, hr, ⟨hlen, .inr ⟨g, cap, _, rfl, hbg, setRow_heap w g cur _ e _ hg, hroom, hcm, ?_, ?_⟩⟩, ⟨rfl, rfl, rfl, by simp, fun k _ hk => setRow_other w g k _ (fun e => hk (by simp [Value.ownBlock, e]))⟩, .inl rfl⟩
      · simp only [List.size_toArray, List.length_append, List.length_take, List.length_drop, Array.length_toList, List.length_replicate]
        omega
      · rw [Nat.mul_one] at htake
        rw [htake, ← hlen]
        exact List.take_left
    · have hold : (Builtin.firstCells i.size n (.slice (some ⟨g, 0, none⟩) n cap)).run P w.drew = .ok xs.toArray w.drew := by
        have holds : ∀ j u, xs[j]? = some u → w.drew.cell? ((⟨g, 0, none⟩ : Addr).add j) = some u := hown.cells (g := g) rfl
        have := run_firstCells_some (P := P) w.drew i.size n ⟨g, 0, none⟩ n cap xs (by rw [hs]; exact hown.1) holds
        exact this
      have hr := Lib.run_append_grow_zeros (P := P) w t tn ty e i z k kn ht htn hi hz (some ⟨g, 0, none⟩) n cap xs hold m hm (by omega) (by omega) (by omega) hmb (growslice_fits (by omega) hbytes)
      have hgr := grown cap (by omega) (Value.ownBlock (.slice (some ⟨g, 0, none⟩) n cap))
      exact ⟨_, _, hr, hgr.1, hgr.2, .inr rfl⟩
end
/-- 'append(v, make([]T, m)...)', m not 0. -/
theorem wpList_append_zeros {P : Program} {w : World} {ops : Array Oper} {rest : List Oper} {o : Oper} {a : Act} {Q : Exit → Act → World → Prop} (hgd : o.guard = none)
    (t tn e : TypeId) (z : Value) (bytes base : Nat) (kn : IntKind) (s x : Operand)
    (ho : o.op = .call { callee := .builtin .append, args := #[s, x], argTypes := #[t, tn] })
    (T : OneTy P t e z bytes) (htn : P.underlying tn = some (.int kn)) (hz1 : z.cells = #[z]) (hoc : z.oneCell' = true) (hb0 : 0 < bytes)
    (v : Value) (hs : a.eval s = v) (n : Nat) (xs : List Value) (k : IntKind) (M : Int) (hx : a.eval x = .int k M) (m : Nat) (hM : M = m) (hm : 0 < m) (hown : w.ownsRow base e 1 v n xs) (hbytes : (n + m) * bytes ≤ 140737488355328) (hbase : base ≤ w.heap.size)
    (h : ∀ v' w', w'.ownsRow base e 1 v' (n + m) (xs ++ List.replicate m z) → w.grownBy w' v.ownBlock → (v'.ownBlock = v.ownBlock ∨ v'.ownBlock = some w.heap.size) → wpList P ops Q rest (a.put o.dst v') w') :
    wpList P ops Q (o :: rest) a w := by
  subst hM
  obtain ⟨i, hi, hz0, hs1, hby⟩ := info_parts T.info
  obtain ⟨v', w', hr, h2, h3, h4⟩ := run_zeros_own (P := P) w base t tn o.type e i z bytes k kn T.ht htn hi hz0 hz1 hs1 hby hoc v n xs hown m hm hbytes hb0 hbase
  exact Lib.wpList_append_run w hgd s x t tn ho v (.int k m) hs hx v' w' hr (h v' w' h2 h3 h4)

/-! ### copy(own[off:], xs) -/
theorem take_three {α : Type} (A N D : List α) (n : Nat) (h : A.length + N.length ≤ n) : (A ++ (N ++ D)).take n = A ++ (N ++ D.take (n - A.length - N.length)) := by
  rw [List.take_append, List.take_of_length_le (show A.length ≤ n by omega), List.take_append, List.take_of_length_le (show N.length ≤ n - A.length by omega)]
/-- 'copy(v[off:], xs)': the row's cells from off on are xs. 'A': the address of the cut, which Go leaves where it was if the cut is empty. -/
theorem wpList_copy_row {P : Program} {w : World} {ops : Array Oper} {rest : List Oper} {o : Oper} {a : Act} {Q : Exit → Act → World → Prop} (hgd : o.guard = none) (d s : Operand) (t e : TypeId) (z : Value) (bytes base : Nat) (T : OneTy P t e z bytes)
    (ho : o.op = .call { callee := .builtin .copy, args := #[d, s], argTypes := #[t, t] })
    (v : Value) (n : Nat) (xs : List Value) (hown : w.ownsRow base e 1 v n xs) (off : Nat) (A : Option Addr) (L C : Nat) (hd : a.eval d = .slice A L C) (hL : L = n - off)
    (B : Option Addr) (m c : Nat) (hs : a.eval s = .slice B m c) (news : List Value) (hsrc : CellsAt w B m news) (hfit : off + m ≤ n) (hA : 0 < m → ∀ g, v.ownBlock = some g → A = some ⟨g, off, none⟩) (h1 : ∀ u ∈ news, u.oneCell' = true)
    (h : ∀ w', w'.ownsRow base e 1 v n (xs.take off ++ (news ++ xs.drop (off + m))) → w.grownBy w' v.ownBlock → wpList P ops Q rest (a.put o.dst (goInt m)) w') :
    wpList P ops Q (o :: rest) a w := by
  have hsz : (P.info? e).map (·.size) = some 1 := by
    obtain ⟨i, hi, _, hs1, _⟩ := info_parts T.info
    rw [hi]; simp [hs1]
  have hmin : Nat.min m L = m := Nat.min_eq_left (by omega)
  by_cases hm : m = 0
  · subst hm
    obtain rfl : news = [] := List.eq_nil_of_length_eq_zero hsrc.1
    refine wpList_copy_nothing hgd d s t t ho e T.ht hsz A B L C 0 c hd hs (by simp) ?_
    exact h w (by simpa using hown) (World.grownBy.refl _ _)
  · obtain ⟨hl, ⟨rfl, rfl⟩ | ⟨g, cap, cur, rfl, hg, hh, hn, hc, hcs, htake⟩⟩ := id hown
    · omega
    · have hA' := hA (by omega) g rfl
      subst hA'
      obtain ⟨b, boff, rfl, hblt, hcell⟩ := hsrc.2.2 (by omega)
      have hnl : news.length = m := hsrc.1
      refine wpList_copy_own hgd d s t t ho e T.ht hsz g off L C ⟨b, boff, none⟩ m c hd hs cur e hh news (by rw [hmin, hnl]) ?_ (by omega) h1 ?_
      · intro j u hu
        have hj : j < m := by have := (List.getElem?_eq_some_iff.1 hu).1; rwa [hnl] at this
        rw [Addr.add_lit, hcell j hj]
        exact hu
      · rw [hnl]
        refine h _ ⟨by simp at hl ⊢; omega, .inr ⟨g, cap, _, rfl, hg, setRow_heap w g cur _ e _ hh, hn, hc, ?_, ?_⟩⟩ ⟨rfl, rfl, rfl, by simp, fun k _ hk => setRow_other w g k _ (fun e => hk (by simp [Value.ownBlock, e]))⟩
        · simp only [List.size_toArray, List.length_append, List.length_take, List.length_drop, Array.length_toList]
          omega
        · rw [Nat.mul_one] at htake ⊢
          have e1 : cur.toList.take off = xs.take off := by rw [← htake, List.take_take, Nat.min_eq_left (by omega)]
          have hxl : xs.length = n := by simpa using hl
          have e2 : (cur.toList.drop (off + m)).take (n - (off + m)) = xs.drop (off + m) := by rw [← htake, List.drop_take]
          have hcl : cur.toList.length = cap := by simpa using hcs
          show List.take n (cur.toList.take off ++ (news ++ cur.toList.drop (off + m))) = xs.take off ++ (news ++ xs.drop (off + m))
          rw [e1, ← e2]
          have l1 : (xs.take off).length = off := by simp; omega
          rw [take_three _ _ _ _ (by omega), l1, hnl, Nat.sub_sub]
end Go.Proofs.Ytnhajhejkecihaa
