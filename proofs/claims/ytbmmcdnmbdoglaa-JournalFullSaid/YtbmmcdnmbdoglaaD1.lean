/- A disk in memory, and the contracts of its small functions. -/
import Derived.Test.YtbmmcdnmbdoglaaRows
import Derived.Test.YtbmmcdnmbdoglaaK1
import Derived.Test.YtbmmcdnmbdoglaaP0
namespace Go.Proofs.Ytbmmcdnmbdoglaa
open Go.RowKit
set_option linter.unusedVariables false

theorem Try.bytes : OneTy Try.prog 43 5 (.int .u8 0) 1 := ⟨Try.underlying43, by kernel_rfl, rfl⟩

/-! ### A block known whole -/
theorem blk_cell {w : World} {p : Nat} {cs : Array Value} {t : TypeId} {fr : Nat × Nat} (h : w.heap[p]? = some (.cells cs t fr)) (i : Nat) : w.cell? ⟨p, i, none⟩ = cs[i]? := by simp [World.cell?, h]
theorem blk_free {w : World} {p : Nat} {cs : Array Value} {t : TypeId} (h : w.heap[p]? = some (.cells cs t (0, 0))) (i : Nat) : w.frozen? ⟨p, i, none⟩ = false := by simp [World.frozen?, h]
theorem blk_lt {w : World} {p : Nat} {o : Obj} (h : w.heap[p]? = some o) : p < w.heap.size := (Array.getElem?_eq_some_iff.1 h).1
theorem blk_set {w : World} {p : Nat} {cs : Array Value} {t : TypeId} {fr : Nat × Nat} (h : w.heap[p]? = some (.cells cs t fr)) (i : Nat) (v : Value) :
    (w.setCell ⟨p, i, none⟩ v).heap[p]? = some (.cells (cs.setIfInBounds i v) t fr) := by
  obtain ⟨hlt, hk⟩ := Array.getElem?_eq_some_iff.1 h
  show (w.heap.modify p _)[p]? = _
  rw [Array.getElem?_eq_getElem (by rw [Array.size_modify]; exact hlt), Array.getElem_modify_self, hk]
  rfl
theorem blk_below {w w' : World} {p : Nat} {o : Obj} (h : w.heap[p]? = some o) (hb : Below w.heap.size w w') : w'.heap[p]? = some o := (hb.block p (blk_lt h)).trans h

theorem keep_set {p : Nat} {w w' : World} (h : Keep (fun k => k = p) w w') (i : Nat) (v : Value) : Keep (fun k => k = p) w (w'.setCell ⟨p, i, none⟩ v) := h.setCell (a := ⟨p, i, none⟩) (.inl rfl) v

/-! ### The disk -/
/-- Where a disk lies: its block, the slices of the contents, of those at the last Sync, of the parts; the parts' texts with their capacities. -/
structure Rep where
  p : Nat
  (nv sv pv : Value)
  tx : List (Addr × Nat)
def Rep.foot (r : Rep) (k : Nat) : Prop := k = r.p ∨ r.nv.ownBlock = some k ∨ r.sv.ownBlock = some k ∨ r.pv.ownBlock = some k ∨ ∃ t ∈ r.tx, t.1.block = k
def pcs : List (Nat × Bytes) → List (Addr × Nat) → List Value
  | p :: ps, a :: zs => .int .i64 (p.1 : Int) :: .slice (some a.1) p.2.length a.2 :: pcs ps zs
  | _, _ => []
theorem pcs_length : ∀ (ps : List (Nat × Bytes)) (zs : List (Addr × Nat)), zs.length = ps.length → (pcs ps zs).length = ps.length * 2
  | [], [], _ => rfl
  | p :: ps, a :: zs, h => by
    have := pcs_length ps zs (by simpa using h)
    simp only [pcs, List.length_cons, this]
    omega
  | [], _ :: _, h => by simp at h
  | _ :: _, [], h => by simp at h
theorem pcs_append : ∀ (ps : List (Nat × Bytes)) (zs : List (Addr × Nat)) (p : Nat × Bytes) (a : Addr × Nat), zs.length = ps.length → pcs (ps ++ [p]) (zs ++ [a]) = pcs ps zs ++ [.int .i64 (p.1 : Int), .slice (some a.1) p.2.length a.2]
  | [], [], _, _, _ => rfl
  | q :: ps, b :: zs, p, a, h => by
    have := pcs_append ps zs p a (by simpa using h)
    simp only [List.cons_append, pcs, this]
  | [], _ :: _, _, _, h => by simp at h
  | _ :: _, [], _, _, h => by simp at h
def dflA : Addr × Nat := (⟨0, 0, none⟩, 0)
theorem pcs_at : ∀ (ps : List (Nat × Bytes)) (zs : List (Addr × Nat)) (i : Nat), zs.length = ps.length → i < ps.length →
    (pcs ps zs)[i * 2]? = some (.int .i64 ((ps.getD i (0, [])).1 : Int)) ∧ (pcs ps zs)[i * 2 + 1]? = some (.slice (some (zs.getD i dflA).1) (ps.getD i (0, [])).2.length (zs.getD i dflA).2)
  | [], _, _, _, h => by simp at h
  | _ :: _, [], _, h, _ => by simp at h
  | p :: ps, a :: zs, 0, _, _ => ⟨rfl, rfl⟩
  | p :: ps, a :: zs, i + 1, h, hi => by
    have := pcs_at ps zs i (by simpa using h) (by simpa using hi)
    rw [show (i + 1) * 2 = i * 2 + 1 + 1 by omega]
    simpa [pcs] using this

/-- Sizes that hold of every disk. -/
structure DS.Ok (d : DS) : Prop where
  calls : 0 ≤ d.calls
  now : d.now.length ≤ 16777216
  syn : d.synced.length ≤ 16777216
  part : ∀ p ∈ d.parts, p.1 + p.2.length ≤ 16777216 ∧ p.2 ≠ []
  left : d.failing = true → 0 ≤ d.left ∧ d.left ≤ 1000000000000

structure IsDisk (w : World) (r : Rep) (d : DS) : Prop where
  blk : w.heap[r.p]? = some (.cells #[r.nv, r.sv, r.pv, .int .i64 d.calls, .bool d.failing, .int .i64 d.left] 59 (0, 0))
  now : w.ownsRow 0 5 1 r.nv d.now.length (b8 d.now)
  syn : w.ownsRow 0 5 1 r.sv d.synced.length (b8 d.synced)
  prt : w.ownsRow 0 68 2 r.pv d.parts.length (pcs d.parts r.tx)
  txl : r.tx.length = d.parts.length
  txt : ∀ i, i < d.parts.length → CellsAt w (some (r.tx.getD i dflA).1) (d.parts.getD i (0, [])).2.length (b8 (d.parts.getD i (0, [])).2)
  sep1 : ∀ b, r.nv.ownBlock = some b → r.sv.ownBlock ≠ some b
  sep2 : ∀ t ∈ r.tx, r.nv.ownBlock ≠ some t.1.block ∧ r.sv.ownBlock ≠ some t.1.block ∧ t.1.block ≠ r.p
  sep3 : ∀ t ∈ r.tx, r.pv.ownBlock ≠ some t.1.block
  ok : d.Ok

theorem getD_mem {α : Type} {l : List α} {i : Nat} {x : α} (h : i < l.length) : l.getD i x ∈ l := by
  rw [List.getD_eq_getElem?_getD, List.getElem?_eq_getElem h]
  exact List.getElem_mem _

theorem IsDisk.txt_lt {w : World} {r : Rep} {d : DS} (h : IsDisk w r d) : ∀ t ∈ r.tx, t.1.block < w.heap.size := by
  intro t ht
  obtain ⟨i, hi, rfl⟩ := List.getElem_of_mem ht
  have hi' : i < d.parts.length := by rw [← h.txl]; exact hi
  have hp := (h.ok.part _ (getD_mem (x := (0, [])) hi')).2
  obtain ⟨b, off, e, hb, _⟩ := (h.txt i hi').2.2 (List.length_pos_iff.2 hp)
  rw [List.getD_eq_getElem?_getD, List.getElem?_eq_getElem hi] at e
  have := Option.some.inj e
  simp only [Option.getD_some] at this
  rw [this]
  exact hb
theorem IsDisk.foot_lt {w : World} {r : Rep} {d : DS} (h : IsDisk w r d) : ∀ k, r.foot k → k < w.heap.size := by
  rintro k (rfl | hk | hk | hk | ⟨t, ht, rfl⟩)
  · exact blk_lt h.blk
  · exact own_lt h.now k hk
  · exact own_lt h.syn k hk
  · exact own_lt h.prt k hk
  · exact h.txt_lt t ht
/-- What touches none of its blocks leaves a disk as it is. -/
theorem IsDisk.keep {w w' : World} {r : Rep} {d : DS} {F : Nat → Prop} (h : IsDisk w r d) (hk : Keep F w w') (hF : ∀ k, r.foot k → ¬ F k) : IsDisk w' r d where
  blk := (hk.block r.p (blk_lt h.blk) (hF _ (.inl rfl))).trans h.blk
  now := hk.own h.now (fun b hb => hF b (.inr (.inl hb)))
  syn := hk.own h.syn (fun b hb => hF b (.inr (.inr (.inl hb))))
  prt := hk.own h.prt (fun b hb => hF b (.inr (.inr (.inr (.inl hb)))))
  txl := h.txl
  txt := fun i hi => (h.txt i hi).keep hk (fun b hb => by
    have hm : r.tx.getD i dflA ∈ r.tx := getD_mem (by rw [h.txl]; exact hi)
    have := Option.some.inj hb
    rw [← this]
    exact hF _ (.inr (.inr (.inr (.inr ⟨_, hm, rfl⟩)))))
  sep1 := h.sep1
  sep2 := h.sep2
  sep3 := h.sep3
  ok := h.ok
theorem IsDisk.below {w w' : World} {r : Rep} {d : DS} (h : IsDisk w r d) (hb : Below w.heap.size w w') : IsDisk w' r d := h.keep (Keep.of_below (F := fun _ => False) hb) (fun _ _ => id)
theorem blk_own_ne {w : World} {p k : Nat} {cs : Array Value} {t e : TypeId} {fr : Nat × Nat} {base size n : Nat} {v : Value} {xs : List Value} (h : w.heap[p]? = some (.cells cs t fr)) (ho : w.ownsRow base e size v n xs) (hk : v.ownBlock = some k) (hte : t ≠ e) : k ≠ p := by
  rintro rfl
  obtain ⟨cur, hc⟩ := own_type ho hk
  rw [h] at hc
  injection hc with hc
  injection hc with _ h2
  exact hte h2
theorem IsDisk.p_ne {w : World} {r : Rep} {d : DS} (h : IsDisk w r d) : (∀ b, r.nv.ownBlock = some b → b ≠ r.p) ∧ (∀ b, r.sv.ownBlock = some b → b ≠ r.p) ∧ (∀ b, r.pv.ownBlock = some b → b ≠ r.p) :=
  ⟨fun b hb => blk_own_ne h.blk h.now hb (by decide), fun b hb => blk_own_ne h.blk h.syn hb (by decide), fun b hb => blk_own_ne h.blk h.prt hb (by decide)⟩
theorem IsDisk.txt_ne {w : World} {r : Rep} {d : DS} (h : IsDisk w r d) : ∀ i, i < d.parts.length → (r.tx.getD i dflA).1.block ≠ r.p := by
  exact fun i hi => (h.sep2 _ (getD_mem (by rw [h.txl]; exact hi))).2.2
/-- A disk whose block alone was turned, its slices being the same. -/
theorem IsDisk.turned {w w' : World} {r : Rep} {d d' : DS} (h : IsDisk w r d) (hk : Keep (· = r.p) w w') (hb : w'.heap[r.p]? = some (.cells #[r.nv, r.sv, r.pv, .int .i64 d'.calls, .bool d'.failing, .int .i64 d'.left] 59 (0, 0)))
    (e1 : d'.now = d.now) (e2 : d'.synced = d.synced) (e3 : d'.parts = d.parts) (ok : d'.Ok) : IsDisk w' r d' where
  blk := hb
  now := by rw [e1]; exact hk.own h.now (fun b hb => h.p_ne.1 b hb)
  syn := by rw [e2]; exact hk.own h.syn (fun b hb => h.p_ne.2.1 b hb)
  prt := by rw [e3]; exact hk.own h.prt (fun b hb => h.p_ne.2.2 b hb)
  txl := by rw [e3]; exact h.txl
  txt := by
    rw [e3]
    exact fun i hi => (h.txt i hi).keep hk (fun b hb => by have := Option.some.inj hb; rw [← this]; exact h.txt_ne i hi)
  sep1 := h.sep1
  sep2 := h.sep2
  sep3 := h.sep3
  ok := ok
end Go.Proofs.Ytbmmcdnmbdoglaa
