/- A good journal whose power is on, beside X: one word for journal, disk and records. -/
import Derived.Test.YtbmmcdnmbdoglaaJ11
namespace Go.Proofs.Ytbmmcdnmbdoglaa
open Go.RowKit
set_option linter.unusedVariables false

def GJ (n : Nat) (X : Nat → Prop) (w : World) (jp p : Nat) (l : List Bytes) (C : Nat) : Prop := ∃ d j, JX n X w jp p d j ∧ Good d j l ∧ d.failing = false ∧ d.calls ≤ (C : Int)
/-- A good disk whose power is on: what opens is l, whatever has crashed. -/
def GD (n : Nat) (X : Nat → Prop) (w : World) (p : Nat) (l : List Bytes) (C : Nat) : Prop := ∃ d E, DX n X w p d ∧ d.failing = false ∧ d.calls ≤ (C : Int) ∧ d.parts.length ≤ 1000 ∧ openL d.now = some (E, l)
theorem GJ.lt {n : Nat} {X : Nat → Prop} {w : World} {jp p C : Nat} {l : List Bytes} (h : GJ n X w jp p l C) : ∀ k, X k → k < w.heap.size := let ⟨_, _, h, _⟩ := h; h.lt
theorem GJ.le {n : Nat} {X : Nat → Prop} {w : World} {jp p C : Nat} {l : List Bytes} (h : GJ n X w jp p l C) : n ≤ w.heap.size := let ⟨_, _, h, _⟩ := h; h.1
theorem GJ.since {n : Nat} {X : Nat → Prop} {w w' : World} {jp p C : Nat} {l : List Bytes} (h : GJ n X w jp p l C) (hs : Since w.heap.size w w') : GJ n X w' jp p l C := let ⟨d, j, h, h2⟩ := h; ⟨d, j, h.since hs, h2⟩
theorem GJ.later {n : Nat} {X Y : Nat → Prop} {w w' : World} {jp p C : Nat} {l : List Bytes} (h : GJ n X w jp p l C) (hs : Since w.heap.size w w') (hY : ∀ k, Y k → k < w'.heap.size ∧ (X k ∨ w.heap.size ≤ k)) : GJ n Y w' jp p l C := let ⟨d, j, h, h2⟩ := h; ⟨d, j, h.later hs hY, h2⟩
theorem GJ.beside {n : Nat} {X Y : Nat → Prop} {w w' : World} {jp p C : Nat} {l : List Bytes} (h : GJ n X w jp p l C) {F : Nat → Prop} (hk : Keep F w w') (hF : ∀ k, F k → X k) (hY : ∀ k, Y k → k < w'.heap.size ∧ (X k ∨ w.heap.size ≤ k)) : GJ n Y w' jp p l C := let ⟨d, j, h, h2⟩ := h; ⟨d, j, h.beside hk hF hY, h2⟩
theorem GJ.more {n : Nat} {X : Nat → Prop} {w : World} {jp p C C' : Nat} {l : List Bytes} (h : GJ n X w jp p l C) (hc : C ≤ C') : GJ n X w jp p l C' := let ⟨d, j, h1, h2, h3, h4⟩ := h; ⟨d, j, h1, h2, h3, by omega⟩
theorem GJ.less {n : Nat} {X Y : Nat → Prop} {w : World} {jp p C : Nat} {l : List Bytes} (h : GJ n X w jp p l C) (hY : ∀ k, Y k → X k) : GJ n Y w jp p l C := h.beside (Keep.refl (fun _ => False) w) (fun _ => False.elim) (fun k hk => ⟨h.lt k (hY k hk), .inl (hY k hk)⟩)
/-- Another journal's work, which lies beside. -/
theorem GJ.kept {n m : Nat} {X Y : Nat → Prop} {w w' : World} {jp p C : Nat} {l : List Bytes} (h : GJ m X w jp p l C) (hk : KX n Y w w') (hY : ∀ k, m ≤ k → k < w.heap.size → Y k) : GJ m X w' jp p l C := by
  obtain ⟨d, j, ⟨hn, r, hp, hd, hj, hf, hx⟩, h2⟩ := h
  exact ⟨d, j, ⟨Nat.le_trans hn hk.size, r, hp, hd.keep hk (fun i hi h' => h'.2 (hY i (hf i hi) (hd.disk.foot_lt i hi))) (fun h' => h'.2 (hY jp hj (blk_lt hd.blk))), hj, hf, fun k hk' => ⟨Nat.lt_of_lt_of_le (hx k hk').1 hk.size, (hx k hk').2⟩⟩, h2⟩
/-- .. and what lies beside may be another set. -/
theorem GJ.kept' {n m : Nat} {X Y Z : Nat → Prop} {w w' : World} {jp p C : Nat} {l : List Bytes} (h : GJ m X w jp p l C) (hk : KX n Y w w') (hY : ∀ k, m ≤ k → k < w.heap.size → Y k) (hZ : ∀ k, Z k → k < w'.heap.size ∧ (X k ∨ w.heap.size ≤ k)) : GJ m Z w' jp p l C := by
  obtain ⟨d, j, ⟨hn, r, hp, hd, hj, hf, hx⟩, h2⟩ := h
  refine ⟨d, j, ⟨Nat.le_trans hn hk.size, r, hp, hd.keep hk (fun i hi h' => h'.2 (hY i (hf i hi) (hd.disk.foot_lt i hi))) (fun h' => h'.2 (hY jp hj (blk_lt hd.blk))), hj, hf, fun k hk' => ⟨(hZ k hk').1, ?_⟩⟩, h2⟩
  rcases (hZ k hk').2 with h1 | h1
  · exact (hx k h1).2
  · exact ⟨fun h' => by have := hd.disk.foot_lt k h'; omega, fun e => by have := blk_lt hd.blk; omega⟩
theorem GJ.gd {n : Nat} {X : Nat → Prop} {w : World} {jp p C : Nat} {l : List Bytes} (h : GJ n X w jp p l C) : GD n X w p l C := let ⟨d, j, h1, h2, h3, h4⟩ := h; ⟨d, j.stop, h1.dx, h3, h4, by rw [h2.prt]; simp, h2.opn⟩
theorem GD.of_D {m n : Nat} {w : World} {p C : Nat} {l : List Bytes} {X : Nat → Prop} (h : GD m (fun _ => False) w p l C) (hX : ∀ k, X k → k < m) : GD m X w p l C := by
  obtain ⟨d, E, h1, h2⟩ := h
  exact ⟨d, E, dx_of h1.d X hX, h2⟩

theorem append_GJ {n : Nat} {X : Nat → Prop} {w : World} {jp p C : Nat} {l : List Bytes} (h : GJ n X w jp p l C) (hC : C ≤ 80000000) (x : ByteArray) (hx : bytesOf l + x.size + 16 + 256 ≤ 16777216) :
    Calls Try.prog 14 #[.pointer (some ⟨jp, 0, none⟩), .string x] w fun e w' => e = .returned (.int .i64 0) ∧ GJ n X w' jp p (l ++ [bs x]) (C + 4) ∧ KX n X w w' := by
  obtain ⟨d, j, h1, h2, h3, h4⟩ := h
  refine (append_G h1 h2 h3 x (Nat.le_refl _) hx h4 hC).mono ?_
  rintro e w' ⟨rfl, d', j', a, b, c, e, f⟩
  exact ⟨rfl, ⟨d', j', a, b, c, e⟩, f⟩
theorem many_GJ {n : Nat} {X : Nat → Prop} {w : World} {jp p C : Nat} {l : List Bytes} (h : GJ n X w jp p l C) : Calls Try.prog 17 #[.pointer (some ⟨jp, 0, none⟩)] w fun e w' => e = .returned (.int .i64 (l.length : Int)) ∧ w = w' := by
  obtain ⟨d, j, h1, h2, h3, h4⟩ := h
  have := many_X h1
  rwa [h2.many] at this
theorem crash_GJ {n : Nat} {X : Nat → Prop} {w : World} {jp p C : Nat} {l : List Bytes} (h : GJ n X w jp p l C) (S : Option Addr) (m sc : Nat) (ns : List Int) (hS : IntsAt w S m ns) (hns : ∀ x ∈ ns, -9223372036854775808 ≤ x ∧ x ≤ 9223372036854775807) :
    Calls Try.prog 18 #[.pointer (some ⟨p, 0, none⟩), .slice S m sc] w fun e w' => e = .returned (.pointer (some ⟨w.heap.size, 0, none⟩)) ∧ GD n X w' w.heap.size l 0 ∧ GD w.heap.size (fun _ => False) w' w.heap.size l 0 ∧ Since w.heap.size w w' := by
  obtain ⟨d, j, h1, h2, h3, h4⟩ := h
  refine (crash_X h1.dx S m sc ns hS hns (by rw [h2.prt]; simp)).mono ?_
  have gc := good_crash h2 ns
  rintro e w' ⟨rfl, a, b, c⟩
  exact ⟨rfl, ⟨_, _, a, rfl, by show (0 : Int) ≤ _; omega, by show ([] : List (Nat × Bytes)).length ≤ _; simp, gc.opn⟩, ⟨_, _, dx_of b _ (fun _ => False.elim), rfl, by show (0 : Int) ≤ _; omega, by show ([] : List (Nat × Bytes)).length ≤ _; simp, gc.opn⟩, c⟩
theorem open_GD {n : Nat} {X : Nat → Prop} {w : World} {p C : Nat} {l : List Bytes} (h : GD n X w p l C) (hC : C ≤ 80000000) :
    Calls Try.prog 12 #[.pointer (some ⟨p, 0, none⟩)] w fun e w' => ∃ jp A c, e = .returned (.tuple #[.pointer (some ⟨jp, 0, none⟩), .slice A l.length c, .int .i64 0]) ∧
      GJ n (fun k => X k ∨ ∃ a, A = some a ∧ k = a.block) w' jp p l (C + 1) ∧ KX n X w w' ∧ StrsAt w' A l.length l ∧ (∀ a, A = some a → w.heap.size ≤ a.block) ∧ (A = none → l.length = 0 ∧ c = 0) ∧ l.length ≤ c := by
  obtain ⟨d, E, h1, h2, h3, h4, h5⟩ := h
  refine (open_X h1 (off_of h2) ⟨by omega, by omega⟩ h5).mono ?_
  rintro e w' ⟨jp, A, c, rfl, a, b⟩
  exact ⟨jp, A, c, rfl, ⟨_, _, a, good_open h5, h2, by show d.calls + 1 ≤ _; omega⟩, b⟩
/-- A new disk. -/
theorem new_GD (w : World) : Calls Try.prog 11 #[] w fun e w' => e = .returned (.pointer (some ⟨w.heap.size, 0, none⟩)) ∧ GD w.heap.size (fun _ => False) w' w.heap.size [] 0 ∧ Since w.heap.size w w' := by
  refine (new_D w).mono ?_
  rintro e w' ⟨rfl, a, b⟩
  exact ⟨rfl, ⟨_, 64, dx_of a _ (fun _ => False.elim), rfl, by show (0 : Int) ≤ _; omega, by show ([] : List (Nat × Bytes)).length ≤ _; simp, open_new⟩, b⟩
theorem fail_GJ {n : Nat} {X : Nat → Prop} {w : World} {jp p C : Nat} {l : List Bytes} (h : GJ n X w jp p l C) (k : Int) (hk : k ≤ 1000000000000) :
    Calls Try.prog 20 #[.pointer (some ⟨p, 0, none⟩), .int .i64 k] w fun e w' => e = .returned (.tuple #[]) ∧ (∃ (d : DS) (j : JS), JX n X w' jp p (d.fail k) j ∧ Good (d.fail k) j l ∧ d.calls ≤ (C : Int)) ∧ KX n X w w' := by
  obtain ⟨d, j, h1, h2, h3, h4⟩ := h
  refine (fail_X h1 k hk).mono ?_
  rintro e w' ⟨rfl, a, b⟩
  exact ⟨rfl, ⟨d, j, a, ⟨h2.syn, h2.prt, h2.opn, h2.many, h2.bytes, h2.fine⟩, h4⟩, b⟩

/-! ### No journal -/
set_option maxHeartbeats 1000000 in
set_option maxRecDepth 100000 in
theorem append_none (w : World) (x : ByteArray) :
    Calls Try.prog 14 #[.pointer none, .string x] w fun e w' => e = .returned (.int .i64 1) ∧ Keep (fun _ => False) w w' := by
  have HK := Lib.hid (fun o1 o2 => ((Keep.refl (fun _ => False) w).alloc' o1).alloc' o2)
  go_enter Try.func14, Try.ntmps14
  go_wp2_with fail
  go_ret
  exact ⟨rfl, HK.out _ _⟩
set_option maxHeartbeats 1000000 in
set_option maxRecDepth 100000 in
theorem append_zero (w : World) (jp : Nat) (c0 : w.cell? ⟨jp, 0, none⟩ = some (.pointer none)) (x : ByteArray) :
    Calls Try.prog 14 #[.pointer (some ⟨jp, 0, none⟩), .string x] w fun e w' => e = .returned (.int .i64 1) ∧ Keep (fun _ => False) w w' := by
  have q1 : ∀ o1 o2, ((w.alloc o1).alloc o2).cell? ⟨jp, 0, none⟩ = some (.pointer none) := fun o1 o2 =>
    cell_kept (((Keep.refl (fun _ => False) w).alloc' o1).alloc' o2) c0 id
  have hjl : jp < w.heap.size := World.block_lt_of_cell? _ _ c0
  have HK := Lib.hid (fun o1 o2 => ((Keep.refl (fun _ => False) w).alloc' o1).alloc' o2)
  clear c0
  go_enter Try.func14, Try.ntmps14
  go_wp2_with fail
  go_ret
  exact ⟨rfl, HK.out _ _⟩
theorem many_none (w : World) : Calls Try.prog 17 #[.pointer none] w fun e w' => e = .returned (.int .i64 0) ∧ w = w' := by
  go_enter Try.func17, Try.ntmps17
  go_wp2_with fail
  go_ret
  exact ⟨rfl, rfl⟩
theorem many_zero (w : World) (jp : Nat) (c1 : w.cell? ⟨jp, 1, none⟩ = some (.int .i64 0)) : Calls Try.prog 17 #[.pointer (some ⟨jp, 0, none⟩)] w fun e w' => e = .returned (.int .i64 0) ∧ w = w' := by
  go_enter Try.func17, Try.ntmps17
  go_wp2_with fail
  go_ret
  exact ⟨rfl, rfl⟩
end Go.Proofs.Ytbmmcdnmbdoglaa
