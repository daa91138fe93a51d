/- Words that the texts without a disk share: blocks known whole, what a step may turn, strings as lists of bytes. -/
import Derived.Test.YtnhajhejkecihaaRows
import Derived.Test.YtnhajhejkecihaaK1
import Derived.Test.YtnhajhejkecihaaK2
namespace Go.Proofs.Ytnhajhejkecihaa
open Go.RowKit
set_option linter.unusedVariables false

abbrev Bytes := List UInt8
theorem getD_mem {α : Type} {l : List α} {i : Nat} {x : α} (h : i < l.length) : l.getD i x ∈ l := by
  rw [List.getD_eq_getElem?_getD, List.getElem?_eq_getElem h]
  exact List.getElem_mem _
theorem blk_cell {w : World} {p : Nat} {cs : Array Value} {t : TypeId} {fr : Nat × Nat} (h : w.heap[p]? = some (.cells cs t fr)) (i : Nat) : w.cell? ⟨p, i, none⟩ = cs[i]? := by simp [World.cell?, h]
theorem blk_free {w : World} {p : Nat} {cs : Array Value} {t : TypeId} (h : w.heap[p]? = some (.cells cs t (0, 0))) (i : Nat) : w.frozen? ⟨p, i, none⟩ = false := by simp [World.frozen?, h]
theorem blk_lt {w : World} {p : Nat} {o : Obj} (h : w.heap[p]? = some o) : p < w.heap.size := (Array.getElem?_eq_some_iff.1 h).1
theorem blk_set {w : World} {p : Nat} {cs : Array Value} {t : TypeId} {fr : Nat × Nat} (h : w.heap[p]? = some (.cells cs t fr)) (i : Nat) (v : Value) :
    (w.setCell ⟨p, i, none⟩ v).heap[p]? = some (.cells (cs.setIfInBounds i v) t fr) := by
  obtain ⟨hlt, hk⟩ := Array.getElem?_eq_some_iff.1 h
  show (w.heap.modify p _)[p]? = _
  rw [Array.getElem?_eq_getElem (by rw [Array.size_modify]; exact hlt), Array.getElem_modify_self, hk]
  rfl
theorem blk_below {w w' : World} {p : Nat} {o : Obj} (h : w.heap[p]? = some o) (hb : Below w.heap.size w w') : w'.heap[p]? = some o := (hb.block p (blk_lt h)).trans h

theorem keep_set {p : Nat} {w w' : World} (h : Keep (fun k => k = p) w w') (i : Nat) (v : Value) : Keep (fun k => k = p) w (w'.setCell ⟨p, i, none⟩ v) := h.setCell (a := ⟨p, i, none⟩) (.inl rfl) v
theorem cell_kept {F : Nat → Prop} {w w' : World} (hk : Keep F w w') {a : Addr} {v : Value} (h : w.cell? a = some v) (hF : ¬ F a.block) : w'.cell? a = some v := (hk.cell (World.block_lt_of_cell? _ _ h) hF).trans h
theorem blk_own_ne {w : World} {p k : Nat} {cs : Array Value} {t e : TypeId} {fr : Nat × Nat} {base size n : Nat} {v : Value} {xs : List Value} (h : w.heap[p]? = some (.cells cs t fr)) (ho : w.ownsRow base e size v n xs) (hk : v.ownBlock = some k) (hte : t ≠ e) : k ≠ p := by
  rintro rfl
  obtain ⟨cur, hc⟩ := own_type ho hk
  rw [h] at hc
  injection hc with hc
  injection hc with _ h2
  exact hte h2
theorem keep_drewN (F : Nat → Prop) (w : World) (n : Nat) : Keep F w (w.drewN n) := ⟨rfl, rfl, rfl, Nat.le_refl _, fun _ _ _ => rfl⟩
theorem Keep.alloc' {w w' : World} (h : Keep (fun _ => False) w w') (o : Obj) : Keep (fun _ => False) w (w'.alloc o) :=
  h.trans ⟨rfl, rfl, rfl, by simp, fun k hk _ => Below.heap_alloc w' o k hk⟩

/-! ### Strings as lists of bytes -/
def bs (s : ByteArray) : Bytes := s.data.toList
theorem bs_length (s : ByteArray) : (bs s).length = s.size := by
  show s.data.toList.length = s.data.size
  exact Array.length_toList
theorem bs_take (s : ByteArray) (n : Nat) : bs (s.extract 0 n) = (bs s).take n := by
  simp [bs, ByteArray.data_extract, Array.toList_extract, List.extract_eq_take_drop]
theorem bs_drop (s : ByteArray) (n : Nat) : bs (s.extract n s.size) = (bs s).drop n := by
  simp only [bs, ByteArray.data_extract, Array.toList_extract, List.extract_eq_take_drop]
  exact List.take_of_length_le (by rw [List.length_drop, Array.length_toList]; exact Nat.le_refl _)

/-- A string made of bytes. -/
def sb (l : Bytes) : ByteArray := ⟨l.toArray⟩
theorem bs_sb (l : Bytes) : bs (sb l) = l := rfl
theorem sb_bs (s : ByteArray) : sb (bs s) = s := rfl
theorem sb_size (l : Bytes) : (sb l).size = l.length := by
  show l.toArray.size = _
  simp
theorem sb_inj {l m : Bytes} (h : sb l = sb m) : l = m := by
  have := congrArg bs h
  exact this

def strs (l : List Bytes) : List Value := l.map fun r => .string (sb r)
abbrev Since (n : Nat) (w w' : World) : Prop := Keep (fun k => n ≤ k) w w'
theorem Since.mono {n m : Nat} {w w' : World} (h : Since n w w') (hm : m ≤ n) : Since m w w' := Keep.mono h (fun k hk => Nat.le_trans hm hk)
theorem since_draw (n k : Nat) (w : World) : Since n w (w.drewN k) := keep_drewN _ w k
theorem Since.of {n : Nat} {w w' : World} (h : Keep (fun _ => False) w w') : Since n w w' := Keep.mono h (fun _ => False.elim)
theorem below_since {n : Nat} {w w' : World} (h : Since n w w') (hn : n = w.heap.size) : Below w.heap.size w w' := by
  subst hn
  exact ⟨h.os, h.tape, h.output, h.size, fun k hk => h.block k hk (by omega)⟩
theorem blk_grown {W W' : World} {row : Option Nat} {b : Nat} {o : Obj} (h : W.heap[b]? = some o) (hg : W.grownBy W' row) (hr : row ≠ some b) : W'.heap[b]? = some o :=
  (hg.block b (blk_lt h) (fun e => hr e.symm)).trans h
theorem alloc_old' {w : World} {b : Nat} {o o' : Obj} (h : w.heap[b]? = some o) : (w.alloc o').heap[b]? = some o := (Below.heap_alloc _ _ _ (blk_lt h)).trans h
theorem own_low {w : World} {base : Nat} {e : TypeId} {size n k : Nat} {v : Value} {xs : List Value} (h : w.ownsRow base e size v n xs) (hk : v.ownBlock = some k) : base ≤ k := by
  rcases h.2 with ⟨rfl, _⟩ | ⟨g, cap, cur, rfl, hb, _⟩
  · simp [Value.ownBlock] at hk
  · have : g = k := by simpa [Value.ownBlock] using hk
    omega
end Go.Proofs.Ytnhajhejkecihaa
