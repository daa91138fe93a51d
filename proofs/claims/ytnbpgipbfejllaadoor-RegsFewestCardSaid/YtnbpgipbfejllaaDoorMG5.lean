/- graph: an exit is added to a builder. -/
import Derived.Test.YtnbpgipbfejllaaDoorMK0
import Derived.Deep.CutRange
namespace Go.Proofs.YtnbpgipbfejllaaDoor
open Go.RowKit Go.Lib
set_option linter.unusedVariables false
set_option linter.unusedSimpArgs false

def z3f : Array Value := #[.int .i64 0, .int .i64 0, .slice none 0 0]
def z3x : Array Value := #[.slice none 0 0, .slice none 0 0, .int .i64 0]
theorem TF.info : (Tryd.prog.info? 95).map (fun i => (i.zero, i.size, i.bytes)) = some (some (.agg z3f), 3, 40) := by kernel_rfl
theorem TX.info : (Tryd.prog.info? 83).map (fun i => (i.zero, i.size, i.bytes)) = some (some (.agg z3x), 3, 56) := by kernel_rfl
/-- The state of leave's first loop. -/
structure L1 (n : Nat) (w : World) (m : Nat) (T : TR) (b : Nat) (k : Nat) (A : Option Addr) (c : Nat) (W : World) : Prop where
  nu : NU n W m
  keep : Keep (fun i => i = m ∨ w.heap.size ≤ i) w W
  blk : W.heap[b]? = some (.cells #[.int .i64 0, .int .i64 0, .slice A k c] 95 (0, 0))
  row : ∃ vs : List Nat, vs.length = k ∧ (∀ v ∈ vs, Val T v) ∧ W.ownsRow w.heap.size 3 1 (.slice A k c) k (ints (nats vs))
  low : w.heap.size ≤ b
theorem L1.next {n : Nat} {w : World} {m : Nat} {T : TR} {b k : Nat} {A : Option Addr} {c : Nat} {W : World} (h : L1 n w m T b k A c W) {vs : List Nat} (hvl : vs.length = k) (hvs : ∀ v ∈ vs, Val T v) (h0 : W.ownsRow w.heap.size 3 1 (.slice A k c) k (ints (nats vs)))
    {W2 W3 : World} {v : Nat} (hv : Val T v) (nu2 : NU n W2 m) (k2 : Keep (fun i => i = m) W W2) (hm : m < w.heap.size) (hn : n ≤ w.heap.size) {A' : Option Addr} {c' : Nat} {o : Obj}
    (hown : W3.ownsRow w.heap.size 3 1 (.slice A' (k + 1) c') (k + 1) (ints (nats vs) ++ ints [(v : Int)])) (hgr : (W2.alloc o).grownBy W3 (Value.slice A k c).ownBlock) :
    W3.heap[b]? = some (.cells #[.int .i64 0, .int .i64 0, .slice A k c] 95 (0, 0)) ∧ L1 n w m T b (k + 1) A' c' (W3.setCell ⟨b, 2, none⟩ (.slice A' (k + 1) c')) := by
  have hk3 : Keep (fun i => i = m ∨ (Value.slice A k c).ownBlock = some i) W W3 := (Keep.mono (Keep.trans k2 (Keep.mono ((Keep.refl (fun _ => False) W2).alloc' o) (fun _ => False.elim))) (fun _ => .inl)).trans (Keep.mono (own_keep' hgr) (fun _ => .inr))
  have hbm : b ≠ m := by have := h.low; omega
  have hb3 := (hk3.block b (blk_lt h.blk) (fun hf => by
    rcases hf with e | e
    · exact hbm e
    · exact blk_own_ne h.blk h0 e (by decide) rfl)).trans h.blk
  refine ⟨hb3, ?_, ?_, ?_, ⟨vs ++ [v], by simp [hvl], fun u hu => ?_, ?_⟩, h.low⟩
  · refine nu2.keep (F := fun i => w.heap.size ≤ i) (Keep.trans (Keep.trans (Keep.mono ((Keep.refl (fun _ => False) W2).alloc' o) (fun _ => False.elim)) (Keep.mono (own_keep' hgr) (fun i e => own_low h0 e))) (Keep.mono (keep_set (Keep.refl (fun i => i = b) W3) 2 _) (fun i e => by have := h.low; omega))) (by omega) (fun i hi => by omega)
  · refine Keep.trans (h.keep.then hk3 (fun i e => ?_)) (Keep.mono (keep_set (Keep.refl (fun i => i = b) W3) 2 _) (fun i e => by have := h.low; omega))
    rcases e with e | e
    · exact .inl (.inl e)
    · exact .inl (.inr (own_low h0 e))
  · exact blk_set hb3 2 _
  · rcases List.mem_append.1 hu with hu | hu
    · exact hvs u hu
    · rw [List.mem_singleton.1 hu]; exact hv
  · have e : ints (nats (vs ++ [v])) = ints (nats vs) ++ ints [(v : Int)] := by unfold nats; rw [List.map_append, ints_append]; rfl
    rw [e]
    exact (keep_set (Keep.refl (fun i => i = b) W3) 2 _).own hown (fun i e => blk_own_ne hb3 hown e (by decide))
theorem L1.num {n : Nat} {w : World} {m : Nat} {T : TR} {b k : Nat} {A : Option Addr} {c : Nat} {W W' : World} (h : L1 n w m T b k A c W) (hk : Keep (fun i => i = m) W W') (nu : NU n W' m) (hm : m < w.heap.size) : L1 n w m T b k A c W' := by
  obtain ⟨vs, a, b', c'⟩ := h.row
  exact ⟨nu, Keep.trans h.keep (Keep.mono hk (fun _ => .inl)), (hk.block _ (blk_lt h.blk) (by have := h.low; omega)).trans h.blk, ⟨vs, a, b', hk.own c' (fun i e => by have := own_low c' e; omega)⟩, h.low⟩
theorem L1.later {n : Nat} {w : World} {m : Nat} {T : TR} {b k : Nat} {A : Option Addr} {c : Nat} {W W' : World} (h : L1 n w m T b k A c W) (hk : Keep (fun i => False) W W') (hm : m < w.heap.size) : L1 n w m T b k A c W' := h.num (Keep.mono hk (fun _ => False.elim)) (h.nu.keep hk id (fun _ => False.elim)) hm
/-- Behind the making of an exit. -/
structure L2 (n : Nat) (w : World) (m : Nat) (T : TR) (b k : Nat) (A : Option Addr) (c be g : Nat) (bk : Int) (W : World) : Prop where
  l1 : L1 n w m T b k A c W
  exb : W.heap[be]? = some (.cells #[.slice (some ⟨g, 0, none⟩) 1 1, .slice none 0 0, .int .i64 bk] 83 (0, 0))
  frm : W.heap[g]? = some (.cells #[.int .i64 0, .int .i64 0, .slice A k c] 95 (0, 0))
  back : 0 ≤ bk
  low : w.heap.size ≤ be ∧ w.heap.size ≤ g
theorem obj_ne {w : World} {a b : Nat} {x y : Array Value} {t u : TypeId} {f g : Nat × Nat} (h : w.heap[a]? = some (.cells x t f)) (k : w.heap[b]? = some (.cells y u g)) (e : t ≠ u) : a ≠ b := by
  rintro rfl
  rw [h] at k
  injection k with k
  injection k with _ k
  exact e k
theorem set3 {W : World} {be : Nat} (x y z : Value) : Keep (fun i => i = be) W (((W.setCell ⟨be, 0, none⟩ x).setCell ⟨be, 1, none⟩ y).setCell ⟨be, 2, none⟩ z) := keep_set (keep_set (keep_set (Keep.refl _ _) 0 x) 1 y) 2 z
theorem L1.beside {n : Nat} {w : World} {m : Nat} {T : TR} {b k : Nat} {A : Option Addr} {c : Nat} {W W' : World} (h : L1 n w m T b k A c W) {be : Nat} {x : Array Value} {t : TypeId} (hb : W.heap[be]? = some (.cells x t (0, 0))) (ht : t ≠ 95 ∧ t ≠ 3) (hl : w.heap.size ≤ be) (hm : m < w.heap.size) (hn : n ≤ w.heap.size)
    (hk : Keep (fun i => i = be) W W') : L1 n w m T b k A c W' := by
  obtain ⟨vs, a, b', c'⟩ := h.row
  exact ⟨h.nu.keep hk (by omega) (fun i e => by omega), Keep.trans h.keep (Keep.mono hk (fun i e => .inr (by omega))), (hk.block _ (blk_lt h.blk) (obj_ne h.blk hb (Ne.symm ht.1))).trans h.blk, ⟨vs, a, b', hk.own c' (fun i e => blk_own_ne hb c' e ht.2)⟩, h.low⟩
theorem L2.made {n : Nat} {w : World} {m : Nat} {T : TR} {b k : Nat} {A : Option Addr} {c : Nat} {V : World} (h : L1 n w m T b k A c V) {g be : Nat} {bk : Int} (hg : V.heap[g]? = some (.cells #[.int .i64 0, .int .i64 0, .slice A k c] 95 (0, 0)) ∧ w.heap.size ≤ g)
    (he : V.heap[be]? = some (.cells #[.slice none 0 0, .slice none 0 0, .int .i64 0] 83 (0, 0)) ∧ w.heap.size ≤ be) (hbk : 0 ≤ bk) (hm : m < w.heap.size) (hn : n ≤ w.heap.size) :
    L2 n w m T b k A c be g bk (((V.setCell ⟨be, 0, none⟩ (.slice (some ⟨g, 0, none⟩) 1 1)).setCell ⟨be, 1, none⟩ (.slice none 0 0)).setCell ⟨be, 2, none⟩ (.int .i64 bk)) := by
  refine ⟨h.beside he.1 ⟨by decide, by decide⟩ he.2 hm hn (set3 _ _ _), ?_, ((set3 _ _ _).block _ (blk_lt hg.1) (obj_ne hg.1 he.1 (by decide))).trans hg.1, hbk, he.2, hg.2⟩
  exact blk_set (blk_set (blk_set he.1 0 _) 1 _) 2 _
/-- An exit that has been made. -/
structure L3 (n : Nat) (w : World) (m : Nat) (T : TR) (be : Nat) (F : List RF) (Fa : Option Addr) (c : Nat) (bk : Int) (W : World) : Prop where
  nu : NU n W m
  keep : Keep (fun i => i = m ∨ w.heap.size ≤ i) w W
  exb : W.heap[be]? = some (.cells #[.slice Fa F.length c, .slice none 0 0, .int .i64 bk] 83 (0, 0))
  lies : Lies W Fa (F.length * 3) (rowF F) 95
  fits : ∀ f ∈ F, f.Fits W
  ok : ExOK T T.ins.length ⟨F.map (·.x), bk⟩
  low : w.heap.size ≤ be
theorem vals_named {T : TR} {vs : List Nat} (h : ∀ v ∈ vs, Val T v) : ∀ v ∈ nats vs, Named T T.ins.length v := by
  intro v hv
  obtain ⟨u, hu, rfl⟩ := List.mem_map.1 hv
  exact .inr ⟨u, rfl, (h u hu).1, (h u hu).2⟩
theorem L2.one {n : Nat} {w : World} {m : Nat} {T : TR} {b k : Nat} {A : Option Addr} {c be g : Nat} {bk : Int} {W : World} (h : L2 n w m T b k A c be g bk W) (hk : k ≤ 4) : ∃ vs, vs.length = k ∧ (RF.Fits W ⟨⟨0, 0, vs⟩, A, c⟩) ∧ L3 n w m T be [⟨⟨0, 0, vs⟩, A, c⟩] (some ⟨g, 0, none⟩) 1 bk W := by
  obtain ⟨vs, hl, hv, ho⟩ := h.l1.row
  have hln : (nats vs).length = k := by unfold nats; rw [List.length_map, hl]
  have hf : RF.Fits W ⟨⟨0, 0, nats vs⟩, A, c⟩ := by
    have := Lies.own ho (by decide) (by omega)
    rw [Nat.mul_one] at this
    show Lies W A (nats vs).length _ _
    rw [hln]
    exact this
  refine ⟨nats vs, hln, hf, h.l1.nu, h.l1.keep, h.exb, ?_, ?_, ⟨⟨by simp, by simp⟩, h.back, ?_⟩, h.low.1⟩
  · refine ⟨⟨rfl, by simp, fun _ => ⟨g, 0, rfl, blk_lt h.frm, fun j hj => ?_⟩⟩, fun _ => ⟨g, 0, _, rfl, h.frm⟩⟩
    have hj3 : j < 3 := hj
    rw [Nat.zero_add, blk_cell h.frm]
    have e : rowF [⟨⟨0, 0, nats vs⟩, A, c⟩] = [.int .i64 0, .int .i64 0, .slice A k c] := by
      show rowG RF.cells _ = _
      rw [rowG_one]
      unfold RF.cells
      simp only
      rw [hln]
    rw [e]
    rcases (show j = 0 ∨ j = 1 ∨ j = 2 by omega) with rfl | rfl | rfl <;> rfl
  · intro f hm
    obtain rfl := List.mem_singleton.1 hm
    exact hf
  · intro f hm
    obtain rfl := List.mem_singleton.1 hm
    exact ⟨Int.le_refl _, Int.le_refl _, by show (nats vs).length ≤ 24; omega, vals_named hv⟩
section
variable {n : Nat} {w : World} {m : Nat} {T : TR} {b k : Nat} {A : Option Addr} {c be g : Nat} {bk : Int} {W : World}
theorem L2.num (h : L2 n w m T b k A c be g bk W) {W' : World} (hk : Keep (fun i => i = m) W W') (nu : NU n W' m) (hm : m < w.heap.size) : L2 n w m T b k A c be g bk W' :=
  ⟨h.l1.num hk nu hm, (hk.block _ (blk_lt h.exb) (by have := h.low.1; omega)).trans h.exb, (hk.block _ (blk_lt h.frm) (by have := h.low.2; omega)).trans h.frm, h.back, h.low⟩
theorem L2.later (h : L2 n w m T b k A c be g bk W) {W' : World} (hk : Keep (fun _ => False) W W') (hm : m < w.heap.size) : L2 n w m T b k A c be g bk W' := h.num (Keep.mono hk (fun _ => False.elim)) (h.l1.nu.keep hk id (fun _ => False.elim)) hm
theorem L2.own (h : L2 n w m T b k A c be g bk W) : W.ownsRow w.heap.size 95 3 (.slice (some ⟨g, 0, none⟩) 1 1) 1 [.int .i64 0, .int .i64 0, .slice A k c] :=
  ⟨rfl, .inr ⟨g, 1, _, rfl, h.low.2, h.frm, Nat.le_refl _, by unfold maxLen; omega, rfl, rfl⟩⟩
theorem L2.two (h : L2 n w m T b k A c be g bk W) (hk4 : k ≤ 4) {r1 v : Nat} (hr : W.heap[r1]? = some (.cells #[.int .i64 (-1), .int .i64 (v : Int)] 3 (0, 0))) (hv : Val T v) (hm : m < w.heap.size) (hn : n ≤ w.heap.size) {W9 : World} {g' cap : Nat}
    (hown : W9.ownsRow w.heap.size 95 3 (.slice (some ⟨g', 0, none⟩) 2 cap) 2 ([.int .i64 0, .int .i64 0, .slice A k c] ++ [.int .i64 1, .int .i64 2, .slice (some ⟨r1, 0, none⟩) 2 2])) {o : Obj} (hgrow : (W.alloc o).grownBy W9 (some g)) :
    W9.heap[be]? = some (.cells #[.slice (some ⟨g, 0, none⟩) 1 1, .slice none 0 0, .int .i64 bk] 83 (0, 0)) ∧ ∃ F : List RF, F.length = 2 ∧ L3 n w m T be F (some ⟨g', 0, none⟩) cap bk (W9.setCell ⟨be, 0, none⟩ (.slice (some ⟨g', 0, none⟩) 2 cap)) := by
  have hk9 : Keep (fun i => some g = some i) W W9 := Keep.trans (Keep.mono ((Keep.refl (fun _ => False) W).alloc' o) (fun _ => False.elim)) (own_keep' hgrow)
  have hgi : ∀ {i : Nat}, some g = some i → i = g := fun e => (Option.some.inj e).symm
  have he9 := (hk9.block be (blk_lt h.exb) (fun e => obj_ne h.exb h.frm (by decide) (hgi e))).trans h.exb
  refine ⟨he9, ?_⟩
  obtain ⟨vs, hl, hv2, ho⟩ := h.l1.row
  have hln : (nats vs).length = k := by unfold nats; rw [List.length_map, hl]
  have kset := keep_set (Keep.refl (fun i => i = be) W9) 0 (.slice (some ⟨g', 0, none⟩) 2 cap)
  have ho9 := kset.own (hk9.own ho (fun i e e2 => blk_own_ne h.frm ho e (by decide) (hgi e2))) (fun i e => blk_own_ne he9 (hk9.own ho (fun i e e2 => blk_own_ne h.frm ho e (by decide) (hgi e2))) e (by decide))
  have hr9 := (hk9.block r1 (blk_lt hr) (fun e => obj_ne hr h.frm (by decide) (hgi e))).trans hr
  have hr10 := (kset.block r1 (blk_lt hr9) (obj_ne hr9 he9 (by decide))).trans hr9
  have hf1 : RF.Fits (W9.setCell ⟨be, 0, none⟩ (.slice (some ⟨g', 0, none⟩) 2 cap)) ⟨⟨0, 0, nats vs⟩, A, c⟩ := by
    have := Lies.own ho9 (by decide) (by omega)
    rw [Nat.mul_one] at this
    show Lies _ A (nats vs).length _ _
    rw [hln]
    exact this
  have hf2 : RF.Fits (W9.setCell ⟨be, 0, none⟩ (.slice (some ⟨g', 0, none⟩) 2 cap)) ⟨⟨1, 2, [-1, (v : Int)]⟩, some ⟨r1, 0, none⟩, 2⟩ := by
    refine ⟨⟨rfl, by simp, fun _ => ⟨r1, 0, rfl, blk_lt hr10, fun j hj => ?_⟩⟩, fun _ => ⟨r1, 0, _, rfl, hr10⟩⟩
    have hj3 : j < 2 := hj
    rw [Nat.zero_add, blk_cell hr10]
    rcases (show j = 0 ∨ j = 1 by omega) with rfl | rfl <;> rfl
  have hall : ∀ f ∈ [(⟨⟨0, 0, nats vs⟩, A, c⟩ : RF), ⟨⟨1, 2, [-1, (v : Int)]⟩, some ⟨r1, 0, none⟩, 2⟩], f.Fits (W9.setCell ⟨be, 0, none⟩ (.slice (some ⟨g', 0, none⟩) 2 cap)) := by
    intro f hf
    rcases List.mem_cons.1 hf with rfl | hf
    · exact hf1
    · obtain rfl := List.mem_singleton.1 hf
      exact hf2
  have hw9 : Keep (fun i => i = m ∨ w.heap.size ≤ i) w W9 := h.l1.keep.then (Keep.mono hk9 (F' := fun i => w.heap.size ≤ i) (fun i e => by rw [hgi e]; exact h.low.2)) (fun i hi => .inl (.inr hi))
  refine ⟨[⟨⟨0, 0, nats vs⟩, A, c⟩, ⟨⟨1, 2, [-1, (v : Int)]⟩, some ⟨r1, 0, none⟩, 2⟩], rfl, ?_, Keep.trans hw9 (Keep.mono kset (fun i e => .inr (by have := h.low.1; omega))), blk_set he9 0 _, ?_, hall, ⟨⟨by simp, by simp⟩, h.back, ?_⟩, h.low.1⟩
  · refine (h.l1.nu.keep hk9 (fun e => ?_) (fun i e => ?_)).keep kset (by have := h.low.1; omega) (fun i e => by have := h.low.1; omega)
    · have := hgi e; have := h.low.2; omega
    · have := hgi e; have := h.low.2; omega
  · have h6 := Lies.own (kset.own hown (fun i e => blk_own_ne he9 hown e (by decide))) (by decide) (by omega)
    have e : rowF [⟨⟨0, 0, nats vs⟩, A, c⟩, ⟨⟨1, 2, [-1, (v : Int)]⟩, some ⟨r1, 0, none⟩, 2⟩] = [.int .i64 0, .int .i64 0, .slice A k c] ++ [.int .i64 1, .int .i64 2, .slice (some ⟨r1, 0, none⟩) 2 2] := by
      show [Value.int .i64 0, .int .i64 0, .slice A (nats vs).length c] ++ ([.int .i64 1, .int .i64 2, .slice (some ⟨r1, 0, none⟩) 2 2] ++ []) = _
      rw [hln, List.append_nil]
    rw [e]
    exact h6
  · intro f hf
    rcases List.mem_cons.1 hf with rfl | hf
    · exact ⟨Int.le_refl _, Int.le_refl _, by show (nats vs).length ≤ 24; omega, vals_named hv2⟩
    · obtain rfl := List.mem_singleton.1 hf
      refine ⟨by simp, by simp, by simp, fun u hu => ?_⟩
      rcases List.mem_cons.1 hu with rfl | hu
      · exact .inl rfl
      · obtain rfl := List.mem_singleton.1 hu
        exact .inr ⟨v, rfl, hv.1, hv.2⟩
end
section
variable {n : Nat} {w0 w : World} {p m : Nat} {T : TR} {fu : Int} {C : List (Nat × Obj)}
set_option maxRecDepth 100000 in
set_option maxHeartbeats 16000000 in
theorem leave_any {pa : Nat} (h : BD n w0 p m T fu pa C w) (hv : Val T 0) (hl : T.ins.length ≤ 1000) (hx : T.exits.length ≤ 1000) (hpa : pa ≤ 4) (hfu : 0 ≤ fu ∧ fu ≤ 10) :
    Calls Tryd.prog 75 #[.pointer (some ⟨p, 0, none⟩)] w fun e w' => e = .returned (.int .i64 ((T.exits.length : Nat) : Int)) ∧ ∃ x : TX, ExOK T T.ins.length x ∧ BD n w0 p m { T with exits := T.exits ++ [x] } fu pa C w' := by
  have HB := Lib.hid h
  have hm0 : m < w.heap.size := h.nu.lt
  obtain ⟨A, ca, E, ce, hb, _⟩ := h.cells
  have hpm : p ≠ m := by
    rintro rfl
    obtain ⟨c2, hc⟩ := h.nu.obj
    rw [hb] at hc
    injection hc with hc
    injection hc with _ e
    revert e
    decide
  have HP := Lib.hid hb
  have HL := Lib.hid (And.intro hpm hm0)
  have HVV := Lib.hid hv
  have HPA := Lib.hid (And.intro hpa hfu)
  have hp0 := blk_lt hb
  have HVAL := Lib.hid (fun (W : World) (hk : Keep (fun i => i = m ∨ w.heap.size ≤ i) w W) (nu : NU n W m) => value_any (HB.out.num hk nu) HVV.out hl)
  have HPC := Lib.hid (fun (W : World) (hk : Keep (fun i => i = m ∨ w.heap.size ≤ i) w W) => (hk.block p hp0 (by omega)).trans hb)
  clear hb hpm hm0 h hv
  go_enter Tryd.func75, Tryd.ntmps75
  have HNW := Lib.hid (show n ≤ w.heap.size from by obtain ⟨_, _, _, _, _, _, h⟩ := HB.out; exact Nat.le_trans h.base h.since.size)
  have V0 := Lib.hid (show L1 n w m T w.heap.size 0 none 0 (w.alloc (.cells #[.int .i64 0, .int .i64 0, .slice none 0 0] 95)) from
    ⟨HB.out.nu.keep (F := fun _ => False) ((Keep.refl _ w).alloc' _) id (fun _ => False.elim), Keep.mono ((Keep.refl (fun _ => False) w).alloc' _) (fun _ => False.elim), heap_alloc_new w _, ⟨[], rfl, by simp, World.ownsRow_nil _ _ _ _⟩, Nat.le_refl _⟩)
  go_wp2_with fail
  obtain ⟨b, hbw⟩ : ∃ b, w.heap.size = b := ⟨_, rfl⟩
  have HBW := Lib.hid hbw
  have V0 : Hid (L1 n w m T b 0 none 0 (w.alloc (.cells #[.int .i64 0, .int .i64 0, .slice none 0 0] 95))) := by rw [← hbw]; exact V0
  rw [hbw]
  clear hbw
  go_loopw [4] (fun i wr => ∃ k : Nat, k ≤ pa ∧ i = .int .i64 (k : Int) ∧ ∃ A c, Hid (L1 n w m T b k A c wr)) (fun i _ => pa + 1 - (RowKit.intOf i).toNat)
  case atStart => exact ⟨0, Nat.zero_le _, rfl, none, 0, V0⟩
  case round =>
    obtain ⟨k, hk, rfl, A1, c1, VV⟩ := hrel
    obtain ⟨wo, rfl⟩ : ∃ wo : World, wo = wr := ⟨_, rfl⟩
    clear V0
    have hq := HPC.out wo VV.out.keep
    have q6 := (blk_cell hq 6).trans rfl
    by_cases hlt : k < pa
    · have hb1 : decide (k < pa) = true := by simpa using hlt
      have x2 := (blk_cell VV.out.blk 2).trans rfl
      clear hq
      go_upto_region 5 with (fail)
      have VD := Lib.hid (show L1 n w m T b k A1 c1 wo.drew from ⟨VV.out.nu, VV.out.keep.drew, VV.out.blk, VV.out.row, VV.out.low⟩)
      have HX := Lib.hid (HVAL.out wo.drew VD.out.keep VD.out.nu)
      have hk64 : k ≤ 4 := by have := HPA.out.1; omega
      have hbm : b ≠ m := by have := VV.out.low; have := HL.out.2; omega
      clear q6 x2 VV
      refine wp_region_drewU (S := (fun w' => Hid (w'.heap[b]? = some (.cells #[.int .i64 0, .int .i64 0, .slice A1 k c1] 95 (0, 0))))) (D := [6, 7]) (by kernel_rfl) (by exact Lib.hid VD.out.blk) (fun hH => ?_)
      refine wpAnyU_take (i := 0) (v := ?_) rfl (by kernel_rfl) (by kernel_rfl) (by kernel_rfl) (by kernel_rfl) (fun _ _ _ h => h) (Or.inl ⟨by rfl, ?_⟩) hH ?_
      rotate_left
      · (intro w'' hSw; (try dsimp only at hSw); go_simp; try with_reducible rfl)
      change wpAnyU _ _ _ _ _ _ _ _ (Act.put _ (some 15) _) _
      try (simp only [Act.put, List.setIfInBounds_toArray]; dsimp only [List.set_cons_zero, List.set_cons_succ])
      refine wpAnyU_take (i := 1) (v := ?_) rfl (by kernel_rfl) (by kernel_rfl) (by kernel_rfl) (by kernel_rfl) (fun _ _ _ h => h) (Or.inl ⟨by rfl, ?_⟩) hH ?_
      rotate_left
      · (intro w'' hSw; have q := (blk_cell hSw.out 2).trans rfl; go_simp; try with_reducible rfl)
      change wpAnyU _ _ _ _ _ _ _ _ (Act.put _ (some 16) _) _
      try (simp only [Act.put, List.setIfInBounds_toArray]; dsimp only [List.set_cons_zero, List.set_cons_succ])
      refine wpAnyU_take (i := 2) (v := ?_) rfl (by kernel_rfl) (by kernel_rfl) (by kernel_rfl) (by kernel_rfl) (fun _ _ _ h => h) (Or.inl ⟨by rfl, ?_⟩) hH ?_
      rotate_left
      · (intro w'' hSw; (try dsimp only at hSw); go_simp; try with_reducible rfl)
      change wpAnyU _ _ _ _ _ _ _ _ (Act.put _ (some 17) _) _
      try (simp only [Act.put, List.setIfInBounds_toArray]; dsimp only [List.set_cons_zero, List.set_cons_succ])
      refine wpAnyU_ready (rs := [3]) (by kernel_rfl) (by simp) ?_
      refine AllReadyU.cons rfl (fun Kn hKn => ?_) AllReadyU.nil
      go_simp
      go_at_call 77
      (with_reducible refine HX.out.mono ?_)
      rintro ee w2 ⟨v, rfl, hv, hn2, hk2⟩
      obtain ⟨vs, hvl, hvs, h0⟩ := VD.out.row
      have H2 := Lib.hid (And.intro hn2 hk2)
      have HO := Lib.hid (hk2.own h0 (fun i e => by have := own_low h0 e; have := HL.out.2; omega))
      have HZ := Lib.hid (And.intro hvl (And.intro hvs (And.intro h0 hv)))
      have HSZ := Lib.hid (show w.heap.size ≤ w2.heap.size from Nat.le_trans VD.out.keep.size hk2.size)
      clear hvl hvs h0 hv hn2 hk2
      refine hKn.out _ _ ?_ (fun hH => ?_)
      · (exact Lib.hid ((H2.out.2.block b (blk_lt VD.out.blk) hbm).trans VD.out.blk))
      clear hKn Kn
      try (simp only [Act.put, List.setIfInBounds_toArray]; dsimp only [List.set_cons_zero, List.set_cons_succ])
      refine wpAnyU_ready (rs := [4]) (by kernel_rfl) (by simp) ?_
      refine AllReadyU.cons rfl (fun Kn hKn => ?_) AllReadyU.nil
      go_simp
      refine hKn.out _ _ ?_ (fun hH => ?_)
      · (exact Lib.hid (alloc_old' hH.out))
      clear hKn Kn
      try (simp only [Act.put, List.setIfInBounds_toArray]; dsimp only [List.set_cons_zero, List.set_cons_succ])
      refine wpAnyU_ready (rs := [5]) (by kernel_rfl) (by simp) ?_
      refine AllReadyU.cons rfl (fun Kn hKn => ?_) AllReadyU.nil
      refine oper_append_src 22 3 _ 8 w.heap.size Tryd.ints1 _ _ rfl (.slice A1 k c1) k (ints (nats vs)) rfl (by exact HO.out.alloc _) _ 1 1 (ints [(v : Int)]) rfl (by intro h; cases h) (by exact cells_new _ _ _) (ints_one _) (by omega) (by decide) (by have := HSZ.out; simp; omega) ?_
      intro A' c' w3 hown hgr hblk
      have HA3 := Lib.hid (VD.out.next HZ.out.1 HZ.out.2.1 HZ.out.2.2.1 HZ.out.2.2.2 H2.out.1 H2.out.2 HL.out.2 HNW.out hown hgr)
      clear hown hgr hblk
      refine hKn.out _ _ ?_ (fun hH => ?_)
      · (exact Lib.hid HA3.out.1)
      clear hKn Kn
      try (simp only [Act.put, List.setIfInBounds_toArray]; dsimp only [List.set_cons_zero, List.set_cons_succ])
      refine wpAnyU_pure (i := 6) (v := ?_) rfl (by kernel_rfl) (by kernel_rfl) (by kernel_rfl) (by rfl) (fun _ _ _ h => h) (Or.inl ⟨by rfl, ?_⟩) ?_
      rotate_left
      · (intro w'' _; go_simp; try with_reducible rfl)
      change wpAnyU _ _ _ _ _ _ _ _ (Act.put _ (some 21) _) _
      try (simp only [Act.put, List.setIfInBounds_toArray]; dsimp only [List.set_cons_zero, List.set_cons_succ])
      refine wpAnyU_ready (rs := [7]) (by kernel_rfl) (by simp) ?_
      refine AllReadyU.last rfl (by rfl) (fun Kn hKn => ?_) AllReadyU.nil
      go_simp
      have q0 := (blk_cell HA3.out.1 2).trans rfl
      have f0 := blk_free HA3.out.1 2
      go_simp
      refine hKn.out _ _ ?_
      clear hKn Kn
      try (simp only [Act.put, List.setIfInBounds_toArray]; dsimp only [List.set_cons_zero, List.set_cons_succ])
      refine wpAnyU_done (by kernel_rfl) ?_ _
      have HL2 := Lib.hid HA3.out.2
      clear HA3
      go_wp2_with fail
      exact ⟨⟨k + 1, by omega, by go_num, A', c', HL2⟩, by simp [RowKit.intOf]; omega⟩
    · have hb1 : decide (k < pa) = false := by simpa using hlt
      obtain rfl : k = pa := by omega
      have HPQ := Lib.hid hq
      clear hq
      go_upto_region 6 with (fail)
      clear q6
      have hfu := HPA.out.2
      have hwr : IntKind.i64.wrap (fu + 1) = fu + 1 := by rw [IntKind.wrap_i64]; omega
      go_cut [5] from 22 to 34 (fun t5 wx => ∃ (be g : Nat) (bk : Int), t5 = .pointer (some ⟨be, 0, none⟩) ∧ Hid (L2 n w m T b k A1 c1 be g bk wx))
      case first =>
        refine wp_region_drewU (S := (fun w' => Hid (w'.heap[b]? = some (.cells #[.int .i64 0, .int .i64 0, .slice A1 k c1] 95 (0, 0)) ∧ w'.heap[p]? = some (.cells #[.pointer (some ⟨m, 0, none⟩), .int .i64 T.pf, .int .i64 T.pl, .slice A T.ins.length ca, .slice E T.exits.length ce, .int .i64 fu, .int .i64 k] 127 (0, 0))))) (D := [14]) (by kernel_rfl) (by exact Lib.hid ⟨VV.out.blk, HPQ.out⟩) (fun hH => ?_)
        have hbm : b ≠ m := by have := VV.out.low; have := HL.out.2; omega
        have HS := Lib.hid (show L1 n w m T b k A1 c1 wo.drew from VV.out.later (keep_draw _ wo) HL.out.2)
        have HSZ := Lib.hid (show w.heap.size ≤ wo.drew.heap.size from VV.out.keep.size)
        obtain ⟨W0, hW0⟩ : ∃ V : World, wo.drew = V := ⟨_, rfl⟩
        rw [hW0] at HS HSZ hH ⊢
        clear hW0
        refine wpAnyU_take (i := 0) (v := ?_) rfl (by kernel_rfl) (by kernel_rfl) (by kernel_rfl) (by kernel_rfl) (fun _ _ _ h => h) (Or.inl ⟨by rfl, ?_⟩) hH ?_
        rotate_left
        · (intro w'' hSw; have q := (blk_cell hSw.out.1 0).trans rfl; have q1 := (blk_cell hSw.out.1 1).trans rfl; have q2 := (blk_cell hSw.out.1 2).trans rfl; go_simp; try with_reducible rfl)
        change wpAnyU _ _ _ _ _ _ _ _ (Act.put _ (some 22) _) _
        try (simp only [Act.put, List.setIfInBounds_toArray]; dsimp only [List.set_cons_zero, List.set_cons_succ])
        refine wpAnyU_take (i := 2) (v := ?_) rfl (by kernel_rfl) (by kernel_rfl) (by kernel_rfl) (by kernel_rfl) (fun _ _ _ h => h) (Or.inl ⟨by rfl, ?_⟩) hH ?_
        rotate_left
        · (intro w'' hSw; (try dsimp only at hSw); go_simp; try with_reducible rfl)
        change wpAnyU _ _ _ _ _ _ _ _ (Act.put _ (some 24) _) _
        try (simp only [Act.put, List.setIfInBounds_toArray]; dsimp only [List.set_cons_zero, List.set_cons_succ])
        refine wpAnyU_take (i := 3) (v := ?_) rfl (by kernel_rfl) (by kernel_rfl) (by kernel_rfl) (by kernel_rfl) (fun _ _ _ h => h) (Or.inl ⟨by rfl, ?_⟩) hH ?_
        rotate_left
        · (intro w'' hSw; (try dsimp only at hSw); go_simp; try with_reducible rfl)
        change wpAnyU _ _ _ _ _ _ _ _ (Act.put _ (some 25) _) _
        try (simp only [Act.put, List.setIfInBounds_toArray]; dsimp only [List.set_cons_zero, List.set_cons_succ])
        refine wpAnyU_take (i := 4) (v := ?_) rfl (by kernel_rfl) (by kernel_rfl) (by kernel_rfl) (by kernel_rfl) (fun _ _ _ h => h) (Or.inl ⟨by rfl, ?_⟩) hH ?_
        rotate_left
        · (intro w'' hSw; (try dsimp only at hSw); go_simp; try with_reducible rfl)
        change wpAnyU _ _ _ _ _ _ _ _ (Act.put _ (some 26) _) _
        try (simp only [Act.put, List.setIfInBounds_toArray]; dsimp only [List.set_cons_zero, List.set_cons_succ])
        refine wpAnyU_take (i := 5) (v := ?_) rfl (by kernel_rfl) (by kernel_rfl) (by kernel_rfl) (by kernel_rfl) (fun _ _ _ h => h) (Or.inl ⟨by rfl, ?_⟩) hH ?_
        rotate_left
        · (intro w'' hSw; have q := (blk_cell hSw.out.2 0).trans rfl; go_simp; try with_reducible rfl)
        change wpAnyU _ _ _ _ _ _ _ _ (Act.put _ (some 27) _) _
        try (simp only [Act.put, List.setIfInBounds_toArray]; dsimp only [List.set_cons_zero, List.set_cons_succ])
        refine wpAnyU_take (i := 6) (v := ?_) rfl (by kernel_rfl) (by kernel_rfl) (by kernel_rfl) (by kernel_rfl) (fun _ _ _ h => h) (Or.inl ⟨by rfl, ?_⟩) hH ?_
        rotate_left
        · (intro w'' hSw; (try dsimp only at hSw); go_simp; try with_reducible rfl)
        change wpAnyU _ _ _ _ _ _ _ _ (Act.put _ (some 28) _) _
        try (simp only [Act.put, List.setIfInBounds_toArray]; dsimp only [List.set_cons_zero, List.set_cons_succ])
        refine wpAnyU_take (i := 7) (v := ?_) rfl (by kernel_rfl) (by kernel_rfl) (by kernel_rfl) (by kernel_rfl) (fun _ _ _ h => h) (Or.inl ⟨by rfl, ?_⟩) hH ?_
        rotate_left
        · (intro w'' hSw; (try dsimp only at hSw); go_simp; try with_reducible rfl)
        change wpAnyU _ _ _ _ _ _ _ _ (Act.put _ (some 29) _) _
        try (simp only [Act.put, List.setIfInBounds_toArray]; dsimp only [List.set_cons_zero, List.set_cons_succ])
        refine wpAnyU_take (i := 8) (v := ?_) rfl (by kernel_rfl) (by kernel_rfl) (by kernel_rfl) (by kernel_rfl) (fun _ _ _ h => h) (Or.inl ⟨by rfl, ?_⟩) hH ?_
        rotate_left
        · (intro w'' hSw; (try dsimp only at hSw); go_simp; try with_reducible rfl)
        change wpAnyU _ _ _ _ _ _ _ _ (Act.put _ (some 30) _) _
        try (simp only [Act.put, List.setIfInBounds_toArray]; dsimp only [List.set_cons_zero, List.set_cons_succ])
        refine wpAnyU_take (i := 9) (v := ?_) rfl (by kernel_rfl) (by kernel_rfl) (by kernel_rfl) (by kernel_rfl) (fun _ _ _ h => h) (Or.inl ⟨by rfl, ?_⟩) hH ?_
        rotate_left
        · (intro w'' hSw; have q := (blk_cell hSw.out.2 5).trans rfl; go_simp; try with_reducible rfl)
        change wpAnyU _ _ _ _ _ _ _ _ (Act.put _ (some 31) _) _
        try (simp only [Act.put, List.setIfInBounds_toArray]; dsimp only [List.set_cons_zero, List.set_cons_succ])
        refine wpAnyU_take (i := 10) (v := ?_) rfl (by kernel_rfl) (by kernel_rfl) (by kernel_rfl) (by kernel_rfl) (fun _ _ _ h => h) (Or.inl ⟨by rfl, ?_⟩) hH ?_
        rotate_left
        · (intro w'' hSw; (try dsimp only at hSw); go_simp; try with_reducible rfl)
        change wpAnyU _ _ _ _ _ _ _ _ (Act.put _ (some 32) _) _
        try (simp only [Act.put, List.setIfInBounds_toArray]; dsimp only [List.set_cons_zero, List.set_cons_succ])
        refine wpAnyU_ready (rs := [1, 11, 13]) (by kernel_rfl) (by simp) ?_
        refine AllReadyU.cons rfl (fun Kn hKn => ?_) ?_
        · skip
          go_simp
          refine hKn.out _ _ ?_ (fun hH => ?_)
          · (exact Lib.hid ⟨alloc_old' hH.out.1, alloc_old' hH.out.2⟩)
          clear hKn Kn
          try (simp only [Act.put, List.setIfInBounds_toArray]; dsimp only [List.set_cons_zero, List.set_cons_succ])
          obtain ⟨V1, hV1⟩ : ∃ V : World, W0.alloc (.cells #[.int .i64 0, .int .i64 0, .slice A1 k c1] 95) = V := ⟨_, rfl⟩
          replace HS := Lib.hid (show L1 n w m T b k A1 c1 (W0.alloc (.cells #[.int .i64 0, .int .i64 0, .slice A1 k c1] 95)) from HS.out.later ((Keep.refl _ W0).alloc' _) HL.out.2)
          have HG := Lib.hid (And.intro (heap_alloc_new W0 (.cells #[.int .i64 0, .int .i64 0, .slice A1 k c1] 95)) (show w.heap.size ≤ W0.heap.size from HSZ.out))
          replace HSZ := Lib.hid (show w.heap.size ≤ (W0.alloc (.cells #[.int .i64 0, .int .i64 0, .slice A1 k c1] 95)).heap.size by have := HSZ.out; simp; omega)
          obtain ⟨g, hg⟩ : ∃ g, W0.heap.size = g := ⟨_, rfl⟩
          rw [hV1] at HS HSZ hH HG ⊢
          rw [hg] at HG ⊢
          clear hV1 hg
          refine wpAnyU_ready (rs := [11, 13]) (by kernel_rfl) (by simp) ?_
          refine AllReadyU.cons rfl (fun Kn hKn => ?_) ?_
          · skip
            go_simp
            go_at_call 73
            (with_reducible refine (next_any HS.out.nu (fu + 1) (by omega)).mono ?_)
            rintro ee V2 ⟨bk, rfl, hbk, hn2, hk2⟩
            have HNK := Lib.hid (And.intro hn2 hk2)
            clear hn2 hk2
            refine hKn.out _ _ ?_ (fun hH => ?_)
            · (exact Lib.hid ⟨(HNK.out.2.block _ (blk_lt hH.out.1) hbm).trans hH.out.1, (HNK.out.2.block _ (blk_lt hH.out.2) HL.out.1).trans hH.out.2⟩)
            clear hKn Kn
            try (simp only [Act.put, List.setIfInBounds_toArray]; dsimp only [List.set_cons_zero, List.set_cons_succ])
            replace HS := Lib.hid (HS.out.num HNK.out.2 HNK.out.1 HL.out.2)
            replace HG := Lib.hid (And.intro ((HNK.out.2.block _ (blk_lt HG.out.1) (by have := HG.out.2; have := HL.out.2; omega)).trans HG.out.1) HG.out.2)
            replace HSZ := Lib.hid (Nat.le_trans HSZ.out HNK.out.2.size)
            clear HNK
            refine wpAnyU_take (i := 12) (v := ?_) rfl (by kernel_rfl) (by kernel_rfl) (by kernel_rfl) (by kernel_rfl) (fun _ _ _ h => h) (Or.inl ⟨by rfl, ?_⟩) hH ?_
            rotate_left
            · (intro w'' hSw; (try dsimp only at hSw); go_simp; try with_reducible rfl)
            change wpAnyU _ _ _ _ _ _ _ _ (Act.put _ (some 34) _) _
            try (simp only [Act.put, List.setIfInBounds_toArray]; dsimp only [List.set_cons_zero, List.set_cons_succ])
            refine wpAnyU_ready (rs := [13]) (by kernel_rfl) (by simp) ?_
            refine AllReadyU.cons rfl (fun Kn hKn => ?_) AllReadyU.nil
            go_simp
            refine hKn.out _ _ ?_ (fun hH => ?_)
            · (exact Lib.hid ⟨alloc_old' hH.out.1, alloc_old' hH.out.2⟩)
            clear hKn Kn
            try (simp only [Act.put, List.setIfInBounds_toArray]; dsimp only [List.set_cons_zero, List.set_cons_succ])
            obtain ⟨V3, hV3⟩ : ∃ V : World, V2.alloc (.cells #[.slice none 0 0, .slice none 0 0, .int .i64 0] 83) = V := ⟨_, rfl⟩
            replace HS := Lib.hid (show L1 n w m T b k A1 c1 (V2.alloc (.cells #[.slice none 0 0, .slice none 0 0, .int .i64 0] 83)) from HS.out.later ((Keep.refl _ V2).alloc' _) HL.out.2)
            replace HG := Lib.hid (And.intro (alloc_old' (o' := .cells #[.slice none 0 0, .slice none 0 0, .int .i64 0] 83) HG.out.1) HG.out.2)
            have HE := Lib.hid (And.intro (heap_alloc_new V2 (.cells #[.slice none 0 0, .slice none 0 0, .int .i64 0] 83)) (show w.heap.size ≤ V2.heap.size from HSZ.out))
            replace HSZ := Lib.hid (show w.heap.size ≤ (V2.alloc (.cells #[.slice none 0 0, .slice none 0 0, .int .i64 0] 83)).heap.size by have := HSZ.out; simp; omega)
            obtain ⟨be, hbe⟩ : ∃ g, V2.heap.size = g := ⟨_, rfl⟩
            rw [hV3] at HS HSZ hH HG HE ⊢
            rw [hbe] at HE ⊢
            clear hV3 hbe
            refine wpAnyU_ready (rs := [14]) (by kernel_rfl) (by simp) ?_
            refine AllReadyU.last rfl (by rfl) (fun Kn hKn => ?_) AllReadyU.nil
            go_simp
            have q0 := (blk_cell HE.out.1 0).trans rfl
            have q1 := (blk_cell HE.out.1 1).trans rfl
            have q2 := (blk_cell HE.out.1 2).trans rfl
            have f0 := blk_free HE.out.1 0
            have f1 := blk_free HE.out.1 1
            have f2 := blk_free HE.out.1 2
            go_simp
            refine hKn.out _ _ ?_
            clear hKn Kn
            try (simp only [Act.put, List.setIfInBounds_toArray]; dsimp only [List.set_cons_zero, List.set_cons_succ])
            refine wpAnyU_done (by kernel_rfl) ?_ _
            go_wp2_with fail
            go_meet
            exact ⟨be, g, bk, rfl, Lib.hid (L2.made HS.out HG.out HE.out hbk.1 HL.out.2 HNW.out)⟩
          refine AllReadyU.cons rfl (fun Kn hKn => ?_) ?_
          · skip
            go_simp
            refine hKn.out _ _ ?_ (fun hH => ?_)
            · (exact Lib.hid ⟨alloc_old' hH.out.1, alloc_old' hH.out.2⟩)
            clear hKn Kn
            try (simp only [Act.put, List.setIfInBounds_toArray]; dsimp only [List.set_cons_zero, List.set_cons_succ])
            obtain ⟨V2, hV2⟩ : ∃ V : World, V1.alloc (.cells #[.slice none 0 0, .slice none 0 0, .int .i64 0] 83) = V := ⟨_, rfl⟩
            replace HS := Lib.hid (show L1 n w m T b k A1 c1 (V1.alloc (.cells #[.slice none 0 0, .slice none 0 0, .int .i64 0] 83)) from HS.out.later ((Keep.refl _ V1).alloc' _) HL.out.2)
            replace HG := Lib.hid (And.intro (alloc_old' (o' := .cells #[.slice none 0 0, .slice none 0 0, .int .i64 0] 83) HG.out.1) HG.out.2)
            have HE := Lib.hid (And.intro (heap_alloc_new V1 (.cells #[.slice none 0 0, .slice none 0 0, .int .i64 0] 83)) (show w.heap.size ≤ V1.heap.size from HSZ.out))
            replace HSZ := Lib.hid (show w.heap.size ≤ (V1.alloc (.cells #[.slice none 0 0, .slice none 0 0, .int .i64 0] 83)).heap.size by have := HSZ.out; simp; omega)
            obtain ⟨be, hbe⟩ : ∃ g, V1.heap.size = g := ⟨_, rfl⟩
            rw [hV2] at HS HSZ hH HG HE ⊢
            rw [hbe] at HE ⊢
            clear hV2 hbe
            refine wpAnyU_ready (rs := [11]) (by kernel_rfl) (by simp) ?_
            refine AllReadyU.cons rfl (fun Kn hKn => ?_) AllReadyU.nil
            go_simp
            go_at_call 73
            (with_reducible refine (next_any HS.out.nu (fu + 1) (by omega)).mono ?_)
            rintro ee V3 ⟨bk, rfl, hbk, hn2, hk2⟩
            have HNK := Lib.hid (And.intro hn2 hk2)
            clear hn2 hk2
            refine hKn.out _ _ ?_ (fun hH => ?_)
            · (exact Lib.hid ⟨(HNK.out.2.block _ (blk_lt hH.out.1) hbm).trans hH.out.1, (HNK.out.2.block _ (blk_lt hH.out.2) HL.out.1).trans hH.out.2⟩)
            clear hKn Kn
            try (simp only [Act.put, List.setIfInBounds_toArray]; dsimp only [List.set_cons_zero, List.set_cons_succ])
            replace HS := Lib.hid (HS.out.num HNK.out.2 HNK.out.1 HL.out.2)
            replace HG := Lib.hid (And.intro ((HNK.out.2.block _ (blk_lt HG.out.1) (by have := HG.out.2; have := HL.out.2; omega)).trans HG.out.1) HG.out.2)
            replace HE := Lib.hid (And.intro ((HNK.out.2.block _ (blk_lt HE.out.1) (by have := HE.out.2; have := HL.out.2; omega)).trans HE.out.1) HE.out.2)
            replace HSZ := Lib.hid (Nat.le_trans HSZ.out HNK.out.2.size)
            clear HNK
            refine wpAnyU_take (i := 12) (v := ?_) rfl (by kernel_rfl) (by kernel_rfl) (by kernel_rfl) (by kernel_rfl) (fun _ _ _ h => h) (Or.inl ⟨by rfl, ?_⟩) hH ?_
            rotate_left
            · (intro w'' hSw; (try dsimp only at hSw); go_simp; try with_reducible rfl)
            change wpAnyU _ _ _ _ _ _ _ _ (Act.put _ (some 34) _) _
            try (simp only [Act.put, List.setIfInBounds_toArray]; dsimp only [List.set_cons_zero, List.set_cons_succ])
            refine wpAnyU_ready (rs := [14]) (by kernel_rfl) (by simp) ?_
            refine AllReadyU.last rfl (by rfl) (fun Kn hKn => ?_) AllReadyU.nil
            go_simp
            have q0 := (blk_cell HE.out.1 0).trans rfl
            have q1 := (blk_cell HE.out.1 1).trans rfl
            have q2 := (blk_cell HE.out.1 2).trans rfl
            have f0 := blk_free HE.out.1 0
            have f1 := blk_free HE.out.1 1
            have f2 := blk_free HE.out.1 2
            go_simp
            refine hKn.out _ _ ?_
            clear hKn Kn
            try (simp only [Act.put, List.setIfInBounds_toArray]; dsimp only [List.set_cons_zero, List.set_cons_succ])
            refine wpAnyU_done (by kernel_rfl) ?_ _
            go_wp2_with fail
            go_meet
            exact ⟨be, g, bk, rfl, Lib.hid (L2.made HS.out HG.out HE.out hbk.1 HL.out.2 HNW.out)⟩
          exact AllReadyU.nil
        refine AllReadyU.cons rfl (fun Kn hKn => ?_) ?_
        · skip
          go_simp
          go_at_call 73
          (with_reducible refine (next_any HS.out.nu (fu + 1) (by omega)).mono ?_)
          rintro ee V1 ⟨bk, rfl, hbk, hn2, hk2⟩
          have HNK := Lib.hid (And.intro hn2 hk2)
          clear hn2 hk2
          refine hKn.out _ _ ?_ (fun hH => ?_)
          · (exact Lib.hid ⟨(HNK.out.2.block _ (blk_lt hH.out.1) hbm).trans hH.out.1, (HNK.out.2.block _ (blk_lt hH.out.2) HL.out.1).trans hH.out.2⟩)
          clear hKn Kn
          try (simp only [Act.put, List.setIfInBounds_toArray]; dsimp only [List.set_cons_zero, List.set_cons_succ])
          replace HS := Lib.hid (HS.out.num HNK.out.2 HNK.out.1 HL.out.2)
          replace HSZ := Lib.hid (Nat.le_trans HSZ.out HNK.out.2.size)
          clear HNK
          refine wpAnyU_ready (rs := [1, 13]) (by kernel_rfl) (by simp) ?_
          refine AllReadyU.cons rfl (fun Kn hKn => ?_) ?_
          · skip
            go_simp
            refine hKn.out _ _ ?_ (fun hH => ?_)
            · (exact Lib.hid ⟨alloc_old' hH.out.1, alloc_old' hH.out.2⟩)
            clear hKn Kn
            try (simp only [Act.put, List.setIfInBounds_toArray]; dsimp only [List.set_cons_zero, List.set_cons_succ])
            obtain ⟨V2, hV2⟩ : ∃ V : World, V1.alloc (.cells #[.int .i64 0, .int .i64 0, .slice A1 k c1] 95) = V := ⟨_, rfl⟩
            replace HS := Lib.hid (show L1 n w m T b k A1 c1 (V1.alloc (.cells #[.int .i64 0, .int .i64 0, .slice A1 k c1] 95)) from HS.out.later ((Keep.refl _ V1).alloc' _) HL.out.2)
            have HG := Lib.hid (And.intro (heap_alloc_new V1 (.cells #[.int .i64 0, .int .i64 0, .slice A1 k c1] 95)) (show w.heap.size ≤ V1.heap.size from HSZ.out))
            replace HSZ := Lib.hid (show w.heap.size ≤ (V1.alloc (.cells #[.int .i64 0, .int .i64 0, .slice A1 k c1] 95)).heap.size by have := HSZ.out; simp; omega)
            obtain ⟨g, hg⟩ : ∃ g, V1.heap.size = g := ⟨_, rfl⟩
            rw [hV2] at HS HSZ hH HG ⊢
            rw [hg] at HG ⊢
            clear hV2 hg
            refine wpAnyU_take (i := 12) (v := ?_) rfl (by kernel_rfl) (by kernel_rfl) (by kernel_rfl) (by kernel_rfl) (fun _ _ _ h => h) (Or.inl ⟨by rfl, ?_⟩) hH ?_
            rotate_left
            · (intro w'' hSw; (try dsimp only at hSw); go_simp; try with_reducible rfl)
            change wpAnyU _ _ _ _ _ _ _ _ (Act.put _ (some 34) _) _
            try (simp only [Act.put, List.setIfInBounds_toArray]; dsimp only [List.set_cons_zero, List.set_cons_succ])
            refine wpAnyU_ready (rs := [13]) (by kernel_rfl) (by simp) ?_
            refine AllReadyU.cons rfl (fun Kn hKn => ?_) AllReadyU.nil
            go_simp
            refine hKn.out _ _ ?_ (fun hH => ?_)
            · (exact Lib.hid ⟨alloc_old' hH.out.1, alloc_old' hH.out.2⟩)
            clear hKn Kn
            try (simp only [Act.put, List.setIfInBounds_toArray]; dsimp only [List.set_cons_zero, List.set_cons_succ])
            obtain ⟨V3, hV3⟩ : ∃ V : World, V2.alloc (.cells #[.slice none 0 0, .slice none 0 0, .int .i64 0] 83) = V := ⟨_, rfl⟩
            replace HS := Lib.hid (show L1 n w m T b k A1 c1 (V2.alloc (.cells #[.slice none 0 0, .slice none 0 0, .int .i64 0] 83)) from HS.out.later ((Keep.refl _ V2).alloc' _) HL.out.2)
            replace HG := Lib.hid (And.intro (alloc_old' (o' := .cells #[.slice none 0 0, .slice none 0 0, .int .i64 0] 83) HG.out.1) HG.out.2)
            have HE := Lib.hid (And.intro (heap_alloc_new V2 (.cells #[.slice none 0 0, .slice none 0 0, .int .i64 0] 83)) (show w.heap.size ≤ V2.heap.size from HSZ.out))
            replace HSZ := Lib.hid (show w.heap.size ≤ (V2.alloc (.cells #[.slice none 0 0, .slice none 0 0, .int .i64 0] 83)).heap.size by have := HSZ.out; simp; omega)
            obtain ⟨be, hbe⟩ : ∃ g, V2.heap.size = g := ⟨_, rfl⟩
            rw [hV3] at HS HSZ hH HG HE ⊢
            rw [hbe] at HE ⊢
            clear hV3 hbe
            refine wpAnyU_ready (rs := [14]) (by kernel_rfl) (by simp) ?_
            refine AllReadyU.last rfl (by rfl) (fun Kn hKn => ?_) AllReadyU.nil
            go_simp
            have q0 := (blk_cell HE.out.1 0).trans rfl
            have q1 := (blk_cell HE.out.1 1).trans rfl
            have q2 := (blk_cell HE.out.1 2).trans rfl
            have f0 := blk_free HE.out.1 0
            have f1 := blk_free HE.out.1 1
            have f2 := blk_free HE.out.1 2
            go_simp
            refine hKn.out _ _ ?_
            clear hKn Kn
            try (simp only [Act.put, List.setIfInBounds_toArray]; dsimp only [List.set_cons_zero, List.set_cons_succ])
            refine wpAnyU_done (by kernel_rfl) ?_ _
            go_wp2_with fail
            go_meet
            exact ⟨be, g, bk, rfl, Lib.hid (L2.made HS.out HG.out HE.out hbk.1 HL.out.2 HNW.out)⟩
          refine AllReadyU.cons rfl (fun Kn hKn => ?_) ?_
          · skip
            go_simp
            refine hKn.out _ _ ?_ (fun hH => ?_)
            · (exact Lib.hid ⟨alloc_old' hH.out.1, alloc_old' hH.out.2⟩)
            clear hKn Kn
            try (simp only [Act.put, List.setIfInBounds_toArray]; dsimp only [List.set_cons_zero, List.set_cons_succ])
            obtain ⟨V2, hV2⟩ : ∃ V : World, V1.alloc (.cells #[.slice none 0 0, .slice none 0 0, .int .i64 0] 83) = V := ⟨_, rfl⟩
            replace HS := Lib.hid (show L1 n w m T b k A1 c1 (V1.alloc (.cells #[.slice none 0 0, .slice none 0 0, .int .i64 0] 83)) from HS.out.later ((Keep.refl _ V1).alloc' _) HL.out.2)
            have HE := Lib.hid (And.intro (heap_alloc_new V1 (.cells #[.slice none 0 0, .slice none 0 0, .int .i64 0] 83)) (show w.heap.size ≤ V1.heap.size from HSZ.out))
            replace HSZ := Lib.hid (show w.heap.size ≤ (V1.alloc (.cells #[.slice none 0 0, .slice none 0 0, .int .i64 0] 83)).heap.size by have := HSZ.out; simp; omega)
            obtain ⟨be, hbe⟩ : ∃ g, V1.heap.size = g := ⟨_, rfl⟩
            rw [hV2] at HS HSZ hH HE ⊢
            rw [hbe] at HE ⊢
            clear hV2 hbe
            refine wpAnyU_ready (rs := [1]) (by kernel_rfl) (by simp) ?_
            refine AllReadyU.cons rfl (fun Kn hKn => ?_) AllReadyU.nil
            go_simp
            refine hKn.out _ _ ?_ (fun hH => ?_)
            · (exact Lib.hid ⟨alloc_old' hH.out.1, alloc_old' hH.out.2⟩)
            clear hKn Kn
            try (simp only [Act.put, List.setIfInBounds_toArray]; dsimp only [List.set_cons_zero, List.set_cons_succ])
            obtain ⟨V3, hV3⟩ : ∃ V : World, V2.alloc (.cells #[.int .i64 0, .int .i64 0, .slice A1 k c1] 95) = V := ⟨_, rfl⟩
            replace HS := Lib.hid (show L1 n w m T b k A1 c1 (V2.alloc (.cells #[.int .i64 0, .int .i64 0, .slice A1 k c1] 95)) from HS.out.later ((Keep.refl _ V2).alloc' _) HL.out.2)
            replace HE := Lib.hid (And.intro (alloc_old' (o' := .cells #[.int .i64 0, .int .i64 0, .slice A1 k c1] 95) HE.out.1) HE.out.2)
            have HG := Lib.hid (And.intro (heap_alloc_new V2 (.cells #[.int .i64 0, .int .i64 0, .slice A1 k c1] 95)) (show w.heap.size ≤ V2.heap.size from HSZ.out))
            replace HSZ := Lib.hid (show w.heap.size ≤ (V2.alloc (.cells #[.int .i64 0, .int .i64 0, .slice A1 k c1] 95)).heap.size by have := HSZ.out; simp; omega)
            obtain ⟨g, hg⟩ : ∃ g, V2.heap.size = g := ⟨_, rfl⟩
            rw [hV3] at HS HSZ hH HE HG ⊢
            rw [hg] at HG ⊢
            clear hV3 hg
            refine wpAnyU_take (i := 12) (v := ?_) rfl (by kernel_rfl) (by kernel_rfl) (by kernel_rfl) (by kernel_rfl) (fun _ _ _ h => h) (Or.inl ⟨by rfl, ?_⟩) hH ?_
            rotate_left
            · (intro w'' hSw; (try dsimp only at hSw); go_simp; try with_reducible rfl)
            change wpAnyU _ _ _ _ _ _ _ _ (Act.put _ (some 34) _) _
            try (simp only [Act.put, List.setIfInBounds_toArray]; dsimp only [List.set_cons_zero, List.set_cons_succ])
            refine wpAnyU_ready (rs := [14]) (by kernel_rfl) (by simp) ?_
            refine AllReadyU.last rfl (by rfl) (fun Kn hKn => ?_) AllReadyU.nil
            go_simp
            have q0 := (blk_cell HE.out.1 0).trans rfl
            have q1 := (blk_cell HE.out.1 1).trans rfl
            have q2 := (blk_cell HE.out.1 2).trans rfl
            have f0 := blk_free HE.out.1 0
            have f1 := blk_free HE.out.1 1
            have f2 := blk_free HE.out.1 2
            go_simp
            refine hKn.out _ _ ?_
            clear hKn Kn
            try (simp only [Act.put, List.setIfInBounds_toArray]; dsimp only [List.set_cons_zero, List.set_cons_succ])
            refine wpAnyU_done (by kernel_rfl) ?_ _
            go_wp2_with fail
            go_meet
            exact ⟨be, g, bk, rfl, Lib.hid (L2.made HS.out HG.out HE.out hbk.1 HL.out.2 HNW.out)⟩
          exact AllReadyU.nil
        refine AllReadyU.cons rfl (fun Kn hKn => ?_) ?_
        · skip
          go_simp
          refine hKn.out _ _ ?_ (fun hH => ?_)
          · (exact Lib.hid ⟨alloc_old' hH.out.1, alloc_old' hH.out.2⟩)
          clear hKn Kn
          try (simp only [Act.put, List.setIfInBounds_toArray]; dsimp only [List.set_cons_zero, List.set_cons_succ])
          obtain ⟨V1, hV1⟩ : ∃ V : World, W0.alloc (.cells #[.slice none 0 0, .slice none 0 0, .int .i64 0] 83) = V := ⟨_, rfl⟩
          replace HS := Lib.hid (show L1 n w m T b k A1 c1 (W0.alloc (.cells #[.slice none 0 0, .slice none 0 0, .int .i64 0] 83)) from HS.out.later ((Keep.refl _ W0).alloc' _) HL.out.2)
          have HE := Lib.hid (And.intro (heap_alloc_new W0 (.cells #[.slice none 0 0, .slice none 0 0, .int .i64 0] 83)) (show w.heap.size ≤ W0.heap.size from HSZ.out))
          replace HSZ := Lib.hid (show w.heap.size ≤ (W0.alloc (.cells #[.slice none 0 0, .slice none 0 0, .int .i64 0] 83)).heap.size by have := HSZ.out; simp; omega)
          obtain ⟨be, hbe⟩ : ∃ g, W0.heap.size = g := ⟨_, rfl⟩
          rw [hV1] at HS HSZ hH HE ⊢
          rw [hbe] at HE ⊢
          clear hV1 hbe
          refine wpAnyU_ready (rs := [1, 11]) (by kernel_rfl) (by simp) ?_
          refine AllReadyU.cons rfl (fun Kn hKn => ?_) ?_
          · skip
            go_simp
            refine hKn.out _ _ ?_ (fun hH => ?_)
            · (exact Lib.hid ⟨alloc_old' hH.out.1, alloc_old' hH.out.2⟩)
            clear hKn Kn
            try (simp only [Act.put, List.setIfInBounds_toArray]; dsimp only [List.set_cons_zero, List.set_cons_succ])
            obtain ⟨V2, hV2⟩ : ∃ V : World, V1.alloc (.cells #[.int .i64 0, .int .i64 0, .slice A1 k c1] 95) = V := ⟨_, rfl⟩
            replace HS := Lib.hid (show L1 n w m T b k A1 c1 (V1.alloc (.cells #[.int .i64 0, .int .i64 0, .slice A1 k c1] 95)) from HS.out.later ((Keep.refl _ V1).alloc' _) HL.out.2)
            replace HE := Lib.hid (And.intro (alloc_old' (o' := .cells #[.int .i64 0, .int .i64 0, .slice A1 k c1] 95) HE.out.1) HE.out.2)
            have HG := Lib.hid (And.intro (heap_alloc_new V1 (.cells #[.int .i64 0, .int .i64 0, .slice A1 k c1] 95)) (show w.heap.size ≤ V1.heap.size from HSZ.out))
            replace HSZ := Lib.hid (show w.heap.size ≤ (V1.alloc (.cells #[.int .i64 0, .int .i64 0, .slice A1 k c1] 95)).heap.size by have := HSZ.out; simp; omega)
            obtain ⟨g, hg⟩ : ∃ g, V1.heap.size = g := ⟨_, rfl⟩
            rw [hV2] at HS HSZ hH HE HG ⊢
            rw [hg] at HG ⊢
            clear hV2 hg
            refine wpAnyU_ready (rs := [11]) (by kernel_rfl) (by simp) ?_
            refine AllReadyU.cons rfl (fun Kn hKn => ?_) AllReadyU.nil
            go_simp
            go_at_call 73
            (with_reducible refine (next_any HS.out.nu (fu + 1) (by omega)).mono ?_)
            rintro ee V3 ⟨bk, rfl, hbk, hn2, hk2⟩
            have HNK := Lib.hid (And.intro hn2 hk2)
            clear hn2 hk2
            refine hKn.out _ _ ?_ (fun hH => ?_)
            · (exact Lib.hid ⟨(HNK.out.2.block _ (blk_lt hH.out.1) hbm).trans hH.out.1, (HNK.out.2.block _ (blk_lt hH.out.2) HL.out.1).trans hH.out.2⟩)
            clear hKn Kn
            try (simp only [Act.put, List.setIfInBounds_toArray]; dsimp only [List.set_cons_zero, List.set_cons_succ])
            replace HS := Lib.hid (HS.out.num HNK.out.2 HNK.out.1 HL.out.2)
            replace HG := Lib.hid (And.intro ((HNK.out.2.block _ (blk_lt HG.out.1) (by have := HG.out.2; have := HL.out.2; omega)).trans HG.out.1) HG.out.2)
            replace HE := Lib.hid (And.intro ((HNK.out.2.block _ (blk_lt HE.out.1) (by have := HE.out.2; have := HL.out.2; omega)).trans HE.out.1) HE.out.2)
            replace HSZ := Lib.hid (Nat.le_trans HSZ.out HNK.out.2.size)
            clear HNK
            refine wpAnyU_take (i := 12) (v := ?_) rfl (by kernel_rfl) (by kernel_rfl) (by kernel_rfl) (by kernel_rfl) (fun _ _ _ h => h) (Or.inl ⟨by rfl, ?_⟩) hH ?_
            rotate_left
            · (intro w'' hSw; (try dsimp only at hSw); go_simp; try with_reducible rfl)
            change wpAnyU _ _ _ _ _ _ _ _ (Act.put _ (some 34) _) _
            try (simp only [Act.put, List.setIfInBounds_toArray]; dsimp only [List.set_cons_zero, List.set_cons_succ])
            refine wpAnyU_ready (rs := [14]) (by kernel_rfl) (by simp) ?_
            refine AllReadyU.last rfl (by rfl) (fun Kn hKn => ?_) AllReadyU.nil
            go_simp
            have q0 := (blk_cell HE.out.1 0).trans rfl
            have q1 := (blk_cell HE.out.1 1).trans rfl
            have q2 := (blk_cell HE.out.1 2).trans rfl
            have f0 := blk_free HE.out.1 0
            have f1 := blk_free HE.out.1 1
            have f2 := blk_free HE.out.1 2
            go_simp
            refine hKn.out _ _ ?_
            clear hKn Kn
            try (simp only [Act.put, List.setIfInBounds_toArray]; dsimp only [List.set_cons_zero, List.set_cons_succ])
            refine wpAnyU_done (by kernel_rfl) ?_ _
            go_wp2_with fail
            go_meet
            exact ⟨be, g, bk, rfl, Lib.hid (L2.made HS.out HG.out HE.out hbk.1 HL.out.2 HNW.out)⟩
          refine AllReadyU.cons rfl (fun Kn hKn => ?_) ?_
          · skip
            go_simp
            go_at_call 73
            (with_reducible refine (next_any HS.out.nu (fu + 1) (by omega)).mono ?_)
            rintro ee V2 ⟨bk, rfl, hbk, hn2, hk2⟩
            have HNK := Lib.hid (And.intro hn2 hk2)
            clear hn2 hk2
            refine hKn.out _ _ ?_ (fun hH => ?_)
            · (exact Lib.hid ⟨(HNK.out.2.block _ (blk_lt hH.out.1) hbm).trans hH.out.1, (HNK.out.2.block _ (blk_lt hH.out.2) HL.out.1).trans hH.out.2⟩)
            clear hKn Kn
            try (simp only [Act.put, List.setIfInBounds_toArray]; dsimp only [List.set_cons_zero, List.set_cons_succ])
            replace HS := Lib.hid (HS.out.num HNK.out.2 HNK.out.1 HL.out.2)
            replace HE := Lib.hid (And.intro ((HNK.out.2.block _ (blk_lt HE.out.1) (by have := HE.out.2; have := HL.out.2; omega)).trans HE.out.1) HE.out.2)
            replace HSZ := Lib.hid (Nat.le_trans HSZ.out HNK.out.2.size)
            clear HNK
            refine wpAnyU_ready (rs := [1]) (by kernel_rfl) (by simp) ?_
            refine AllReadyU.cons rfl (fun Kn hKn => ?_) AllReadyU.nil
            go_simp
            refine hKn.out _ _ ?_ (fun hH => ?_)
            · (exact Lib.hid ⟨alloc_old' hH.out.1, alloc_old' hH.out.2⟩)
            clear hKn Kn
            try (simp only [Act.put, List.setIfInBounds_toArray]; dsimp only [List.set_cons_zero, List.set_cons_succ])
            obtain ⟨V3, hV3⟩ : ∃ V : World, V2.alloc (.cells #[.int .i64 0, .int .i64 0, .slice A1 k c1] 95) = V := ⟨_, rfl⟩
            replace HS := Lib.hid (show L1 n w m T b k A1 c1 (V2.alloc (.cells #[.int .i64 0, .int .i64 0, .slice A1 k c1] 95)) from HS.out.later ((Keep.refl _ V2).alloc' _) HL.out.2)
            replace HE := Lib.hid (And.intro (alloc_old' (o' := .cells #[.int .i64 0, .int .i64 0, .slice A1 k c1] 95) HE.out.1) HE.out.2)
            have HG := Lib.hid (And.intro (heap_alloc_new V2 (.cells #[.int .i64 0, .int .i64 0, .slice A1 k c1] 95)) (show w.heap.size ≤ V2.heap.size from HSZ.out))
            replace HSZ := Lib.hid (show w.heap.size ≤ (V2.alloc (.cells #[.int .i64 0, .int .i64 0, .slice A1 k c1] 95)).heap.size by have := HSZ.out; simp; omega)
            obtain ⟨g, hg⟩ : ∃ g, V2.heap.size = g := ⟨_, rfl⟩
            rw [hV3] at HS HSZ hH HE HG ⊢
            rw [hg] at HG ⊢
            clear hV3 hg
            refine wpAnyU_take (i := 12) (v := ?_) rfl (by kernel_rfl) (by kernel_rfl) (by kernel_rfl) (by kernel_rfl) (fun _ _ _ h => h) (Or.inl ⟨by rfl, ?_⟩) hH ?_
            rotate_left
            · (intro w'' hSw; (try dsimp only at hSw); go_simp; try with_reducible rfl)
            change wpAnyU _ _ _ _ _ _ _ _ (Act.put _ (some 34) _) _
            try (simp only [Act.put, List.setIfInBounds_toArray]; dsimp only [List.set_cons_zero, List.set_cons_succ])
            refine wpAnyU_ready (rs := [14]) (by kernel_rfl) (by simp) ?_
            refine AllReadyU.last rfl (by rfl) (fun Kn hKn => ?_) AllReadyU.nil
            go_simp
            have q0 := (blk_cell HE.out.1 0).trans rfl
            have q1 := (blk_cell HE.out.1 1).trans rfl
            have q2 := (blk_cell HE.out.1 2).trans rfl
            have f0 := blk_free HE.out.1 0
            have f1 := blk_free HE.out.1 1
            have f2 := blk_free HE.out.1 2
            go_simp
            refine hKn.out _ _ ?_
            clear hKn Kn
            try (simp only [Act.put, List.setIfInBounds_toArray]; dsimp only [List.set_cons_zero, List.set_cons_succ])
            refine wpAnyU_done (by kernel_rfl) ?_ _
            go_wp2_with fail
            go_meet
            exact ⟨be, g, bk, rfl, Lib.hid (L2.made HS.out HG.out HE.out hbk.1 HL.out.2 HNW.out)⟩
          exact AllReadyU.nil
        exact AllReadyU.nil
      case rest =>
        obtain ⟨be, g, bk, rfl, V2⟩ := hcut
        clear VV HPQ hwr hfu
        have hk4 : k ≤ 4 := HPA.out.1
        have hqc := HPC.out wc V2.out.l1.keep
        have q0 := (blk_cell hqc 0).trans rfl
        have HNX := Lib.hid (next_any V2.out.l1.nu 5 (by omega))
        clear hqc
        go_wp2_with fail
        ((with_reducible refine HNX.out.mono ?_); rintro ee w7 ⟨r, rfl, hr, hn7, hk7⟩)
        have V7 := Lib.hid (V2.out.num hk7 hn7 HL.out.2)
        clear hn7 hk7 HNX V2 q0
        by_cases hr0 : r = 0
        · subst hr0
          go_upto_region 8 with (fail)
          have VD7 := Lib.hid (V7.out.later (keep_draw (fun _ => False) w7) HL.out.2)
          obtain ⟨Wd, hWd⟩ : ∃ V : World, w7.drew = V := ⟨_, rfl⟩
          rw [hWd] at VD7
          have HX8 := Lib.hid (HVAL.out Wd VD7.out.l1.keep VD7.out.l1.nu)
          have hbem : be ≠ m := by have := VD7.out.low.1; have := HL.out.2; omega
          obtain ⟨i1, hi, hz0, hz1, hz2⟩ := info_parts TF.info
          have HI := Lib.hid hi
          have HZ0 := Lib.hid hz0
          have HZ1 := Lib.hid hz1
          have HZ2 := Lib.hid hz2
          clear hi hz0 hz1 hz2 V7
          refine wp_region_drewU (S := (fun w' => Hid (w'.heap[be]? = some (.cells #[.slice (some ⟨g, 0, none⟩) 1 1, .slice none 0 0, .int .i64 bk] 83 (0, 0))))) (D := [8, 9]) (by kernel_rfl) (by rw [hWd]; exact Lib.hid VD7.out.exb) (fun hH => ?_)
          rw [hWd] at hH ⊢
          clear hWd
          refine wpAnyU_take (i := 0) (v := ?_) rfl (by kernel_rfl) (by kernel_rfl) (by kernel_rfl) (by kernel_rfl) (fun _ _ _ h => h) (Or.inl ⟨by rfl, ?_⟩) hH ?_
          rotate_left
          · (intro w'' hSw; (try dsimp only at hSw); go_simp; try with_reducible rfl)
          change wpAnyU _ _ _ _ _ _ _ _ (Act.put _ (some 41) _) _
          try (simp only [Act.put, List.setIfInBounds_toArray]; dsimp only [List.set_cons_zero, List.set_cons_succ])
          refine wpAnyU_take (i := 1) (v := ?_) rfl (by kernel_rfl) (by kernel_rfl) (by kernel_rfl) (by kernel_rfl) (fun _ _ _ h => h) (Or.inl ⟨by rfl, ?_⟩) hH ?_
          rotate_left
          · (intro w'' hSw; have q := (blk_cell hSw.out 0).trans rfl; go_simp; try with_reducible rfl)
          change wpAnyU _ _ _ _ _ _ _ _ (Act.put _ (some 42) _) _
          try (simp only [Act.put, List.setIfInBounds_toArray]; dsimp only [List.set_cons_zero, List.set_cons_succ])
          refine wpAnyU_take (i := 2) (v := ?_) rfl (by kernel_rfl) (by kernel_rfl) (by kernel_rfl) (by kernel_rfl) (fun _ _ _ h => h) (Or.inl ⟨by rfl, ?_⟩) hH ?_
          rotate_left
          · (intro w'' hSw; (try dsimp only at hSw); go_simp; try with_reducible rfl)
          change wpAnyU _ _ _ _ _ _ _ _ (Act.put _ (some 43) _) _
          try (simp only [Act.put, List.setIfInBounds_toArray]; dsimp only [List.set_cons_zero, List.set_cons_succ])
          refine wpAnyU_ready (rs := [3]) (by kernel_rfl) (by simp) ?_
          refine AllReadyU.cons rfl (fun Kn hKn => ?_) AllReadyU.nil
          go_simp
          go_at_call 77
          (with_reducible refine HX8.out.mono ?_)
          rintro ee w8 ⟨v, rfl, hv, hn8, hk8⟩
          have V8 := Lib.hid (VD7.out.num hk8 hn8 HL.out.2)
          have HV8 := Lib.hid hv
          clear hv hn8 hk8
          refine hKn.out _ _ ?_ (fun hH => ?_)
          · (exact Lib.hid V8.out.exb)
          clear hKn Kn
          try (simp only [Act.put, List.setIfInBounds_toArray]; dsimp only [List.set_cons_zero, List.set_cons_succ])
          refine wpAnyU_ready (rs := [4]) (by kernel_rfl) (by simp) ?_
          refine AllReadyU.cons rfl (fun Kn hKn => ?_) AllReadyU.nil
          go_simp
          refine hKn.out _ _ ?_ (fun hH => ?_)
          · (exact Lib.hid (alloc_old' hH.out))
          clear hKn Kn
          try (simp only [Act.put, List.setIfInBounds_toArray]; dsimp only [List.set_cons_zero, List.set_cons_succ])
          obtain ⟨V, hV⟩ : ∃ V : World, w8.alloc (.cells #[.int .i64 (-1), .int .i64 (v : Int)] 3) = V := ⟨_, rfl⟩
          have V8a := Lib.hid (V8.out.later ((Keep.refl (fun _ => False) w8).alloc' (.cells #[.int .i64 (-1), .int .i64 (v : Int)] 3)) HL.out.2)
          have HR8 := Lib.hid (heap_alloc_new w8 (.cells #[.int .i64 (-1), .int .i64 (v : Int)] 3))
          obtain ⟨r1, hr1⟩ : ∃ g, w8.heap.size = g := ⟨_, rfl⟩
          rw [hV] at V8a HR8 hH ⊢
          rw [hr1] at HR8 ⊢
          have HROW := Lib.hid V8a.out.own
          clear hV hr1
          refine wpAnyU_take (i := 5) (v := ?_) rfl (by kernel_rfl) (by kernel_rfl) (by kernel_rfl) (by kernel_rfl) (fun _ _ _ h => h) (Or.inl ⟨by rfl, ?_⟩) hH ?_
          rotate_left
          · (intro w'' hSw; (try dsimp only at hSw); go_simp; try with_reducible rfl)
          change wpAnyU _ _ _ _ _ _ _ _ (Act.put _ (some 46) _) _
          try (simp only [Act.put, List.setIfInBounds_toArray]; dsimp only [List.set_cons_zero, List.set_cons_succ])
          refine wpAnyU_ready (rs := [6]) (by kernel_rfl) (by simp) ?_
          refine AllReadyU.cons rfl (fun Kn hKn => ?_) AllReadyU.nil
          go_simp
          refine hKn.out _ _ ?_ (fun hH => ?_)
          · (exact Lib.hid (alloc_old' hH.out))
          clear hKn Kn
          try (simp only [Act.put, List.setIfInBounds_toArray]; dsimp only [List.set_cons_zero, List.set_cons_succ])
          refine wpAnyU_ready (rs := [7]) (by kernel_rfl) (by simp) ?_
          refine AllReadyU.cons rfl (fun Kn hKn => ?_) AllReadyU.nil
          refine wp_append_lies _ (.tmp 42) (.tmp 47) 80 rfl w.heap.size 95 i1 _ 3 40 Tryd.underlying80 HI.out HZ0.out HZ1.out HZ2.out rfl (by decide) (.slice (some ⟨g, 0, none⟩) 1 1) 1 [.int .i64 0, .int .i64 0, .slice A1 k c1] rfl (HROW.out.alloc _) ⟨_, 0, none⟩ 1 1 _ rfl rfl (by exact World.news_of_block (heap_alloc_new _ _)) (by intro y hy; simp only [List.mem_cons, List.not_mem_nil, or_false] at hy; rcases hy with rfl | rfl | rfl <;> rfl) (by omega) (by unfold maxLen; omega) (by omega) (by have := V8a.out.l1.keep.size; simp at this ⊢; omega) _ rfl ?_
          intro g8 cap8 w9 hown hgrow hat hlt
          have HTW := Lib.hid (V8a.out.two hk4 HR8.out HV8.out HL.out.2 HNW.out hown hgrow)
          clear hown hgrow hat hlt
          refine hKn.out _ _ ?_ (fun hH => ?_)
          · (exact Lib.hid HTW.out.1)
          clear hKn Kn
          try (simp only [Act.put, List.setIfInBounds_toArray]; dsimp only [List.set_cons_zero, List.set_cons_succ])
          refine wpAnyU_pure (i := 8) (v := ?_) rfl (by kernel_rfl) (by kernel_rfl) (by kernel_rfl) (by rfl) (fun _ _ _ h => h) (Or.inl ⟨by rfl, ?_⟩) ?_
          rotate_left
          · (intro w'' _; go_simp; try with_reducible rfl)
          change wpAnyU _ _ _ _ _ _ _ _ (Act.put _ (some 49) _) _
          try (simp only [Act.put, List.setIfInBounds_toArray]; dsimp only [List.set_cons_zero, List.set_cons_succ])
          refine wpAnyU_ready (rs := [9]) (by kernel_rfl) (by simp) ?_
          refine AllReadyU.last rfl (by rfl) (fun Kn hKn => ?_) AllReadyU.nil
          go_simp
          have q0 := (blk_cell HTW.out.1 0).trans rfl
          have f0 := blk_free HTW.out.1 0
          go_simp
          refine hKn.out _ _ ?_
          clear hKn Kn
          try (simp only [Act.put, List.setIfInBounds_toArray]; dsimp only [List.set_cons_zero, List.set_cons_succ])
          refine wpAnyU_done (by kernel_rfl) ?_ _
          obtain ⟨W9, hW9⟩ : ∃ V : World, w9.setCell ⟨be, 0, none⟩ (.slice (some ⟨g8, 0, none⟩) 2 cap8) = V := ⟨_, rfl⟩
          obtain ⟨F, hFl, hL3⟩ := HTW.out.2
          rw [hW9] at hL3
          have V3 := Lib.hid hL3
          rw [hW9]
          obtain ⟨Fa, hFa⟩ : ∃ Fa : Option Addr, (some ⟨g8, 0, none⟩ : Option Addr) = Fa := ⟨_, rfl⟩
          rw [hFa] at V3 ⊢
          obtain ⟨nf, hnf⟩ : ∃ nf : Nat, F.length = nf := ⟨_, rfl⟩
          obtain ⟨cf, hcf⟩ : ∃ cf : Nat, cap8 = cf := ⟨_, rfl⟩
          rw [hcf] at V3 ⊢
          have h2n : 2 = nf := by omega
          rw [h2n]
          clear hL3 hW9 hFa hcf h2n HTW hFl HI HZ0 HZ1 HZ2
          go_upto_region 9 with (fail)
          have HD9 := HB.out.num V3.out.keep V3.out.nu
          obtain ⟨A9, ca9, E9, ce9, R9, X9, h9⟩ := HD9
          have hX9 : X9.length = T.exits.length := by rw [← h9.exits, List.length_map]
          obtain ⟨j, hj⟩ : ∃ j, T.exits.length = j := ⟨_, rfl⟩
          have HJ := Lib.hid (hX9.trans hj)
          have HJ2 := Lib.hid hj
          have hjl : j ≤ 1000 := by omega
          have HD := Lib.hid (h9.away (keep_draw (fun _ => False) W9) (fun _ hh => hh.elim))
          have VD3 := Lib.hid (show L3 n w m T be F Fa cf bk W9.drew from ⟨V3.out.nu, V3.out.keep.drew, V3.out.exb, V3.out.lies.quiet (keep_draw _ _), fun f hf => Lies.quiet (V3.out.fits f hf) (keep_draw _ _), V3.out.ok, V3.out.low⟩)
          obtain ⟨Wd, hWd⟩ : ∃ V : World, W9.drew = V := ⟨_, rfl⟩
          rw [hWd] at HD VD3
          obtain ⟨i0, hi, hz0, hz1, hz2⟩ := info_parts TX.info
          have HI := Lib.hid hi
          have HZ0 := Lib.hid hz0
          have HZ1 := Lib.hid hz1
          have HZ2 := Lib.hid hz2
          have hrd := HD.out.rowE
          rw [HJ.out] at hrd
          have HRW := Lib.hid hrd
          have hqd := HD.out.hdr
          rw [HJ.out] at hqd
          have HQD := Lib.hid hqd
          have HBD := Lib.hid VD3.out.exb
          have HNE := Lib.hid (show ∀ k, (Value.slice E9 j ce9).ownBlock = some k → k ≠ p from fun k e => blk_own_ne hqd hrd e (by decide))
          have HNB := Lib.hid (show ∀ k, (Value.slice E9 j ce9).ownBlock = some k → k ≠ be from fun k e => by
            obtain ⟨_, _, _, _, _, _, h0⟩ := HB.out
            have e1 := ((blk_cell h9.hdr 4).symm.trans (blk_cell (HPC.out W9 V3.out.keep) 4))
            have e2 := ((blk_cell h0.hdr 4).symm.trans (blk_cell HP.out 4))
            have e3 : Value.slice E9 X9.length ce9 = _ := Option.some.inj (e1.trans e2.symm)
            rw [HJ.out] at e3
            rw [e3] at e
            have e4 := own_lt h0.rowE k e
            have := V3.out.low
            omega)
          have HC0D := Lib.hid ((blk_cell hqd 4).trans rfl)
          have HLOW := Lib.hid (show n ≤ Wd.heap.size from Nat.le_trans HD.out.base HD.out.since.size)
          have HX3 := Lib.hid (show ∀ y ∈ [Value.slice Fa nf cf, .slice none 0 0, .int .i64 bk], y.oneCell' = true from by
            intro y hy
            simp only [List.mem_cons, List.not_mem_nil, or_false] at hy
            rcases hy with rfl | rfl | rfl <;> rfl)
          clear hi hz0 hz1 hz2 hrd hqd h9 hX9 hj V3
          refine wp_region_drewU (S := (fun w' => Hid (Keep (fun i => (Value.slice E9 j ce9).ownBlock = some i) Wd w'))) (D := [9, 10, 11, 12]) (by kernel_rfl) (by rw [hWd]; exact Lib.hid (Keep.refl _ _)) (fun hH => ?_)
          rw [hWd] at hH ⊢
          clear hWd
          refine wpAnyU_take (i := 0) (v := ?_) rfl (by kernel_rfl) (by kernel_rfl) (by kernel_rfl) (by kernel_rfl) (fun _ _ _ h => h) (Or.inl ⟨by rfl, ?_⟩) hH ?_
          rotate_left
          · (intro w'' hSw; (try dsimp only at hSw); go_simp; try with_reducible rfl)
          change wpAnyU _ _ _ _ _ _ _ _ (Act.put _ (some 50) _) _
          try (simp only [Act.put, List.setIfInBounds_toArray]; dsimp only [List.set_cons_zero, List.set_cons_succ])
          refine wpAnyU_take (i := 1) (v := ?_) rfl (by kernel_rfl) (by kernel_rfl) (by kernel_rfl) (by kernel_rfl) (fun _ _ _ h => h) (Or.inl ⟨by rfl, ?_⟩) hH ?_
          rotate_left
          · (intro w'' hSw; (try dsimp only at hSw); go_simp; try with_reducible rfl)
          change wpAnyU _ _ _ _ _ _ _ _ (Act.put _ (some 51) _) _
          try (simp only [Act.put, List.setIfInBounds_toArray]; dsimp only [List.set_cons_zero, List.set_cons_succ])
          refine wpAnyU_take (i := 2) (v := ?_) rfl (by kernel_rfl) (by kernel_rfl) (by kernel_rfl) (by kernel_rfl) (fun _ _ _ h => h) (Or.inl ⟨by rfl, ?_⟩) hH ?_
          rotate_left
          · (intro w'' hSw; (try dsimp only at hSw); go_simp; try with_reducible rfl)
          change wpAnyU _ _ _ _ _ _ _ _ (Act.put _ (some 52) _) _
          try (simp only [Act.put, List.setIfInBounds_toArray]; dsimp only [List.set_cons_zero, List.set_cons_succ])
          refine wpAnyU_take (i := 3) (v := ?_) rfl (by kernel_rfl) (by kernel_rfl) (by kernel_rfl) (by kernel_rfl) (fun _ _ _ h => h) (Or.inl ⟨by rfl, ?_⟩) hH ?_
          rotate_left
          · (intro w'' hSw; (try dsimp only at hSw); go_simp; try with_reducible rfl)
          change wpAnyU _ _ _ _ _ _ _ _ (Act.put _ (some 53) _) _
          try (simp only [Act.put, List.setIfInBounds_toArray]; dsimp only [List.set_cons_zero, List.set_cons_succ])
          refine wpAnyU_take (i := 4) (v := ?_) rfl (by kernel_rfl) (by kernel_rfl) (by kernel_rfl) (by kernel_rfl) (fun _ _ _ h => h) (Or.inl ⟨by rfl, ?_⟩) hH ?_
          rotate_left
          · (intro w'' hSw; (try dsimp only at hSw); go_simp; try with_reducible rfl)
          change wpAnyU _ _ _ _ _ _ _ _ (Act.put _ (some 54) _) _
          try (simp only [Act.put, List.setIfInBounds_toArray]; dsimp only [List.set_cons_zero, List.set_cons_succ])
          refine wpAnyU_take (i := 5) (v := ?_) rfl (by kernel_rfl) (by kernel_rfl) (by kernel_rfl) (by kernel_rfl) (fun _ _ _ h => h) (Or.inl ⟨by rfl, ?_⟩) hH ?_
          rotate_left
          · (intro w'' hSw; have q := cell_kept hSw.out HC0D.out (fun e => HNE.out _ e rfl); go_simp; try with_reducible rfl)
          change wpAnyU _ _ _ _ _ _ _ _ (Act.put _ (some 55) _) _
          try (simp only [Act.put, List.setIfInBounds_toArray]; dsimp only [List.set_cons_zero, List.set_cons_succ])
          refine wpAnyU_take (i := 6) (v := ?_) rfl (by kernel_rfl) (by kernel_rfl) (by kernel_rfl) (by kernel_rfl) (fun _ _ _ h => h) (Or.inl ⟨by rfl, ?_⟩) hH ?_
          rotate_left
          · (intro w'' hSw; have hb := (hSw.out.block be (blk_lt HBD.out) (fun e => HNB.out _ e rfl)).trans HBD.out; have z0 := (blk_cell hb 0).trans rfl; have z1 := (blk_cell hb 1).trans rfl; have z2 := (blk_cell hb 2).trans rfl; clear hb; go_simp; try with_reducible rfl)
          change wpAnyU _ _ _ _ _ _ _ _ (Act.put _ (some 56) _) _
          try (simp only [Act.put, List.setIfInBounds_toArray]; dsimp only [List.set_cons_zero, List.set_cons_succ])
          refine wpAnyU_ready (rs := [7]) (by kernel_rfl) (by simp) ?_
          refine AllReadyU.cons rfl (fun Kn hKn => ?_) AllReadyU.nil
          go_simp
          refine hKn.out _ _ ?_ (fun hH => ?_)
          · (exact Lib.hid (Keep.trans hH.out (Keep.mono ((Keep.refl (fun _ => False) _).alloc' _) (fun _ => False.elim))))
          clear hKn Kn
          try (simp only [Act.put, List.setIfInBounds_toArray]; dsimp only [List.set_cons_zero, List.set_cons_succ])
          refine wpAnyU_ready (rs := [8]) (by kernel_rfl) (by simp) ?_
          refine AllReadyU.cons rfl (fun Kn hKn => ?_) AllReadyU.nil
          refine wp_append_lies _ (.tmp 55) (.tmp 57) 29 rfl n 83 i0 _ 3 56 Tryd.underlying29 HI.out HZ0.out HZ1.out HZ2.out rfl (by decide) (.slice E9 j ce9) j (rowX X9) rfl (HRW.out.alloc _) ⟨_, 0, none⟩ 1 1 _ rfl rfl (by exact World.news_of_block (heap_alloc_new _ _)) (by exact HX3.out) (by omega) (by unfold maxLen; omega) (by omega) (by have := HLOW.out; simp at this ⊢; omega) _ rfl ?_
          intro g5 cap w4 hown hgrow hat hlt
          have HOWN := Lib.hid hown
          have HAT := Lib.hid hat
          have HK4 := Lib.hid (Keep.trans (Keep.mono ((Keep.refl (fun _ => False) Wd).alloc' _) (fun _ => False.elim)) (own_keep' hgrow))
          have HQ4 := Lib.hid ((HK4.out.block p (blk_lt HQD.out) (fun e => HNE.out _ e rfl)).trans HQD.out)
          clear hown hgrow hat hlt
          refine hKn.out _ _ ?_ (fun hH => ?_)
          · (exact HK4)
          clear hKn Kn
          try (simp only [Act.put, List.setIfInBounds_toArray]; dsimp only [List.set_cons_zero, List.set_cons_succ])
          refine wpAnyU_pure (i := 9) (v := ?_) rfl (by kernel_rfl) (by kernel_rfl) (by kernel_rfl) (by rfl) (fun _ _ _ h => h) (Or.inl ⟨by rfl, ?_⟩) ?_
          rotate_left
          · (intro w'' _; go_simp; try with_reducible rfl)
          change wpAnyU _ _ _ _ _ _ _ _ (Act.put _ (some 59) _) _
          try (simp only [Act.put, List.setIfInBounds_toArray]; dsimp only [List.set_cons_zero, List.set_cons_succ])
          refine wpAnyU_pure (i := 10) (v := ?_) rfl (by kernel_rfl) (by kernel_rfl) (by kernel_rfl) (by rfl) (fun _ _ _ h => h) (Or.inl ⟨by rfl, ?_⟩) ?_
          rotate_left
          · (intro w'' _; go_simp; try with_reducible rfl)
          change wpAnyU _ _ _ _ _ _ _ _ (Act.put _ (some 60) _) _
          try (simp only [Act.put, List.setIfInBounds_toArray]; dsimp only [List.set_cons_zero, List.set_cons_succ])
          refine wpAnyU_pure (i := 11) (v := ?_) rfl (by kernel_rfl) (by kernel_rfl) (by kernel_rfl) (by rfl) (fun _ _ _ h => h) (Or.inl ⟨by rfl, ?_⟩) ?_
          rotate_left
          · (intro w'' _; go_simp; try with_reducible rfl)
          change wpAnyU _ _ _ _ _ _ _ _ (Act.put _ (some 61) _) _
          try (simp only [Act.put, List.setIfInBounds_toArray]; dsimp only [List.set_cons_zero, List.set_cons_succ])
          refine wpAnyU_ready (rs := [12]) (by kernel_rfl) (by simp) ?_
          refine AllReadyU.last rfl (by rfl) (fun Kn hKn => ?_) AllReadyU.nil
          go_simp
          have q0 := (blk_cell HQ4.out 4).trans rfl
          have f0 := blk_free HQ4.out 4
          go_simp
          refine hKn.out _ _ ?_
          clear hKn Kn
          try (simp only [Act.put, List.setIfInBounds_toArray]; dsimp only [List.set_cons_zero, List.set_cons_succ])
          refine wpAnyU_done (by kernel_rfl) ?_ _
          obtain ⟨w5, hw5⟩ : ∃ w5 : World, w4.setCell ⟨p, 4, none⟩ (.slice (some ⟨g5, 0, none⟩) (j + 1) cap) = w5 := ⟨_, rfl⟩
          have hq5 := blk_set HQ4.out 4 (.slice (some ⟨g5, 0, none⟩) (j + 1) cap)
          rw [hw5] at hq5
          have d0 := (blk_cell hq5 4).trans rfl
          have HFIN := Lib.hid (show BD n w0 p m { T with exits := T.exits ++ [⟨F.map (·.x), bk⟩] } fu (k : Int) C w5 from by
            have hk5 : Keep (fun i => i = p ∨ (Value.slice E9 j ce9).ownBlock = some i) Wd w5 := by rw [← hw5]; exact Keep.trans (Keep.mono HK4.out (fun _ => .inr)) (Keep.mono (keep_set (Keep.refl (fun i => i = p) w4) 4 _) (fun _ => .inl))
            have hRj := HJ.out
            have hne : ∀ t : TypeId, t ≠ 127 → t ≠ 83 → ∀ k cur, Wd.heap[k]? = some (.cells cur t (0, 0)) → ¬ (k = p ∨ (Value.slice E9 j ce9).ownBlock = some k) := by
              rintro t ht1 ht2 k cur hk (rfl | e)
              · rw [HQD.out] at hk; injection hk with hk; injection hk with _ e; exact ht1 e.symm
              · exact blk_own_ne hk HRW.out e ht2 rfl
            obtain ⟨cm, hcm⟩ := HD.out.num.obj
            have hfr : RX.Fits w5 ⟨⟨F.map (·.x), bk⟩, Fa, cf, F⟩ := RX.Fits.keep (w := Wd) ⟨VD3.out.lies, VD3.out.fits, rfl⟩ hk5 (hne _ (by decide) (by decide)) (hne _ (by decide) (by decide))
            refine ⟨A9, ca9, some ⟨g5, 0, none⟩, cap, R9, X9 ++ [⟨⟨F.map (·.x), bk⟩, Fa, cf, F⟩], HD.out.turn hk5 (fun k hk => ?_) ?_ ?_ ?_ ?_ (fun r hr => .inl hr) (fun r hr => ?_) HD.out.ins ?_ (fun k e => .inl e) (fun k e => ?_)⟩
            · rcases hk with rfl | e
              · exact .inl (.inl rfl)
              · exact .inl (.inr (.inr (.inr (by rw [hRj]; exact e))))
            · rw [List.length_append, hRj]
              exact hq5
            · refine HD.out.num.keep hk5 (hne _ (by decide) (by decide) m cm hcm) (fun k hk => ?_)
              rcases hk with rfl | e
              · exact HD.out.low
              · exact (HRW.out.lt k e).1
            · refine hk5.own HD.out.rowA (fun k e => ?_)
              obtain ⟨cur, hc⟩ := own_type HD.out.rowA e
              exact hne _ (by decide) (by decide) k cur hc
            · have e6 : rowX (X9 ++ [⟨⟨F.map (·.x), bk⟩, Fa, cf, F⟩]) = rowX X9 ++ [Value.slice Fa nf cf, .slice none 0 0, .int .i64 bk] := by
                show rowG RX.cells _ = _
                rw [rowG_append, rowG_one]
                show rowG RX.cells X9 ++ [Value.slice Fa F.length cf, .slice none 0 0, .int .i64 bk] = _
                rw [hnf]
              rw [List.length_append, hRj, e6]
              rw [← hw5]
              exact (keep_set (Keep.refl (fun i => i = p) w4) 4 _).own HOWN.out (fun i e => by
                obtain ⟨cur, hc⟩ := own_type HOWN.out e
                exact fun e2 => by subst e2; rw [HQ4.out] at hc; injection hc with hc; injection hc with _ e3; revert e3; decide)
            · rcases List.mem_append.1 hr with hr | hr
              · exact .inl hr
              · obtain rfl := List.mem_singleton.1 hr
                exact .inr hfr
            · rw [List.map_append, HD.out.exits]
              rfl
            · rw [hRj]
              rw [List.length_append, hRj] at e
              rcases HAT.out with e3 | e3
              · exact .inl (e3.trans (by simpa [Value.ownBlock] using e))
              · refine .inr ?_
                have : g5 = k := by simpa [Value.ownBlock] using e
                rw [← this, e3]
                simp)
          rw [hw5]
          clear hq5 hw5
          go_wp2_with fail
          go_ret
          exact ⟨by rw [HJ2.out]; go_num, _, VD3.out.ok, HFIN.out⟩
        · have hr1 : (r == 0) = false := by simpa using hr0
          obtain ⟨vs, hvl, hfv, hL3⟩ := V7.out.one hk4
          have V3 := Lib.hid hL3
          obtain ⟨F, hF1⟩ : ∃ F : List RF, [(⟨⟨0, 0, vs⟩, A1, c1⟩ : RF)] = F := ⟨_, rfl⟩
          have hFl : F.length = 1 := by rw [← hF1]; rfl
          rw [hF1] at V3
          have HFL := Lib.hid hFl
          clear hvl hfv hL3 V7 hF1 hFl
          obtain ⟨W9, rfl⟩ : ∃ V : World, V = w7 := ⟨_, rfl⟩
          obtain ⟨Fa, hFa⟩ : ∃ Fa : Option Addr, (some ⟨g, 0, none⟩ : Option Addr) = Fa := ⟨_, rfl⟩
          rw [hFa] at V3
          clear hFa
          obtain ⟨nf, hnf⟩ : ∃ nf : Nat, F.length = nf := ⟨_, rfl⟩
          obtain ⟨cf, hcf⟩ : ∃ cf : Nat, 1 = cf := ⟨_, rfl⟩
          rw [hcf] at V3
          clear hcf
          go_upto_region 9 with (fail)
          have HD9 := HB.out.num V3.out.keep V3.out.nu
          obtain ⟨A9, ca9, E9, ce9, R9, X9, h9⟩ := HD9
          have hX9 : X9.length = T.exits.length := by rw [← h9.exits, List.length_map]
          obtain ⟨j, hj⟩ : ∃ j, T.exits.length = j := ⟨_, rfl⟩
          have HJ := Lib.hid (hX9.trans hj)
          have HJ2 := Lib.hid hj
          have hjl : j ≤ 1000 := by omega
          have HD := Lib.hid (h9.away (keep_draw (fun _ => False) W9) (fun _ hh => hh.elim))
          have VD3 := Lib.hid (show L3 n w m T be F Fa cf bk W9.drew from ⟨V3.out.nu, V3.out.keep.drew, V3.out.exb, V3.out.lies.quiet (keep_draw _ _), fun f hf => Lies.quiet (V3.out.fits f hf) (keep_draw _ _), V3.out.ok, V3.out.low⟩)
          obtain ⟨Wd, hWd⟩ : ∃ V : World, W9.drew = V := ⟨_, rfl⟩
          rw [hWd] at HD VD3
          obtain ⟨i0, hi, hz0, hz1, hz2⟩ := info_parts TX.info
          have HI := Lib.hid hi
          have HZ0 := Lib.hid hz0
          have HZ1 := Lib.hid hz1
          have HZ2 := Lib.hid hz2
          have hrd := HD.out.rowE
          rw [HJ.out] at hrd
          have HRW := Lib.hid hrd
          have hqd := HD.out.hdr
          rw [HJ.out] at hqd
          have HQD := Lib.hid hqd
          have HBD := Lib.hid VD3.out.exb
          have HNE := Lib.hid (show ∀ k, (Value.slice E9 j ce9).ownBlock = some k → k ≠ p from fun k e => blk_own_ne hqd hrd e (by decide))
          have HNB := Lib.hid (show ∀ k, (Value.slice E9 j ce9).ownBlock = some k → k ≠ be from fun k e => by
            obtain ⟨_, _, _, _, _, _, h0⟩ := HB.out
            have e1 := ((blk_cell h9.hdr 4).symm.trans (blk_cell (HPC.out W9 V3.out.keep) 4))
            have e2 := ((blk_cell h0.hdr 4).symm.trans (blk_cell HP.out 4))
            have e3 : Value.slice E9 X9.length ce9 = _ := Option.some.inj (e1.trans e2.symm)
            rw [HJ.out] at e3
            rw [e3] at e
            have e4 := own_lt h0.rowE k e
            have := V3.out.low
            omega)
          have HC0D := Lib.hid ((blk_cell hqd 4).trans rfl)
          have HLOW := Lib.hid (show n ≤ Wd.heap.size from Nat.le_trans HD.out.base HD.out.since.size)
          have HX3 := Lib.hid (show ∀ y ∈ [Value.slice Fa nf cf, .slice none 0 0, .int .i64 bk], y.oneCell' = true from by
            intro y hy
            simp only [List.mem_cons, List.not_mem_nil, or_false] at hy
            rcases hy with rfl | rfl | rfl <;> rfl)
          clear hi hz0 hz1 hz2 hrd hqd h9 hX9 hj V3
          refine wp_region_drewU (S := (fun w' => Hid (Keep (fun i => (Value.slice E9 j ce9).ownBlock = some i) Wd w'))) (D := [9, 10, 11, 12]) (by kernel_rfl) (by rw [hWd]; exact Lib.hid (Keep.refl _ _)) (fun hH => ?_)
          rw [hWd] at hH ⊢
          clear hWd
          refine wpAnyU_take (i := 0) (v := ?_) rfl (by kernel_rfl) (by kernel_rfl) (by kernel_rfl) (by kernel_rfl) (fun _ _ _ h => h) (Or.inl ⟨by rfl, ?_⟩) hH ?_
          rotate_left
          · (intro w'' hSw; (try dsimp only at hSw); go_simp; try with_reducible rfl)
          change wpAnyU _ _ _ _ _ _ _ _ (Act.put _ (some 50) _) _
          try (simp only [Act.put, List.setIfInBounds_toArray]; dsimp only [List.set_cons_zero, List.set_cons_succ])
          refine wpAnyU_take (i := 1) (v := ?_) rfl (by kernel_rfl) (by kernel_rfl) (by kernel_rfl) (by kernel_rfl) (fun _ _ _ h => h) (Or.inl ⟨by rfl, ?_⟩) hH ?_
          rotate_left
          · (intro w'' hSw; (try dsimp only at hSw); go_simp; try with_reducible rfl)
          change wpAnyU _ _ _ _ _ _ _ _ (Act.put _ (some 51) _) _
          try (simp only [Act.put, List.setIfInBounds_toArray]; dsimp only [List.set_cons_zero, List.set_cons_succ])
          refine wpAnyU_take (i := 2) (v := ?_) rfl (by kernel_rfl) (by kernel_rfl) (by kernel_rfl) (by kernel_rfl) (fun _ _ _ h => h) (Or.inl ⟨by rfl, ?_⟩) hH ?_
          rotate_left
          · (intro w'' hSw; (try dsimp only at hSw); go_simp; try with_reducible rfl)
          change wpAnyU _ _ _ _ _ _ _ _ (Act.put _ (some 52) _) _
          try (simp only [Act.put, List.setIfInBounds_toArray]; dsimp only [List.set_cons_zero, List.set_cons_succ])
          refine wpAnyU_take (i := 3) (v := ?_) rfl (by kernel_rfl) (by kernel_rfl) (by kernel_rfl) (by kernel_rfl) (fun _ _ _ h => h) (Or.inl ⟨by rfl, ?_⟩) hH ?_
          rotate_left
          · (intro w'' hSw; (try dsimp only at hSw); go_simp; try with_reducible rfl)
          change wpAnyU _ _ _ _ _ _ _ _ (Act.put _ (some 53) _) _
          try (simp only [Act.put, List.setIfInBounds_toArray]; dsimp only [List.set_cons_zero, List.set_cons_succ])
          refine wpAnyU_take (i := 4) (v := ?_) rfl (by kernel_rfl) (by kernel_rfl) (by kernel_rfl) (by kernel_rfl) (fun _ _ _ h => h) (Or.inl ⟨by rfl, ?_⟩) hH ?_
          rotate_left
          · (intro w'' hSw; (try dsimp only at hSw); go_simp; try with_reducible rfl)
          change wpAnyU _ _ _ _ _ _ _ _ (Act.put _ (some 54) _) _
          try (simp only [Act.put, List.setIfInBounds_toArray]; dsimp only [List.set_cons_zero, List.set_cons_succ])
          refine wpAnyU_take (i := 5) (v := ?_) rfl (by kernel_rfl) (by kernel_rfl) (by kernel_rfl) (by kernel_rfl) (fun _ _ _ h => h) (Or.inl ⟨by rfl, ?_⟩) hH ?_
          rotate_left
          · (intro w'' hSw; have q := cell_kept hSw.out HC0D.out (fun e => HNE.out _ e rfl); go_simp; try with_reducible rfl)
          change wpAnyU _ _ _ _ _ _ _ _ (Act.put _ (some 55) _) _
          try (simp only [Act.put, List.setIfInBounds_toArray]; dsimp only [List.set_cons_zero, List.set_cons_succ])
          refine wpAnyU_take (i := 6) (v := ?_) rfl (by kernel_rfl) (by kernel_rfl) (by kernel_rfl) (by kernel_rfl) (fun _ _ _ h => h) (Or.inl ⟨by rfl, ?_⟩) hH ?_
          rotate_left
          · (intro w'' hSw; have hb := (hSw.out.block be (blk_lt HBD.out) (fun e => HNB.out _ e rfl)).trans HBD.out; have z0 := (blk_cell hb 0).trans rfl; have z1 := (blk_cell hb 1).trans rfl; have z2 := (blk_cell hb 2).trans rfl; clear hb; go_simp; try with_reducible rfl)
          change wpAnyU _ _ _ _ _ _ _ _ (Act.put _ (some 56) _) _
          try (simp only [Act.put, List.setIfInBounds_toArray]; dsimp only [List.set_cons_zero, List.set_cons_succ])
          refine wpAnyU_ready (rs := [7]) (by kernel_rfl) (by simp) ?_
          refine AllReadyU.cons rfl (fun Kn hKn => ?_) AllReadyU.nil
          go_simp
          refine hKn.out _ _ ?_ (fun hH => ?_)
          · (exact Lib.hid (Keep.trans hH.out (Keep.mono ((Keep.refl (fun _ => False) _).alloc' _) (fun _ => False.elim))))
          clear hKn Kn
          try (simp only [Act.put, List.setIfInBounds_toArray]; dsimp only [List.set_cons_zero, List.set_cons_succ])
          refine wpAnyU_ready (rs := [8]) (by kernel_rfl) (by simp) ?_
          refine AllReadyU.cons rfl (fun Kn hKn => ?_) AllReadyU.nil
          refine wp_append_lies _ (.tmp 55) (.tmp 57) 29 rfl n 83 i0 _ 3 56 Tryd.underlying29 HI.out HZ0.out HZ1.out HZ2.out rfl (by decide) (.slice E9 j ce9) j (rowX X9) rfl (HRW.out.alloc _) ⟨_, 0, none⟩ 1 1 _ rfl rfl (by exact World.news_of_block (heap_alloc_new _ _)) (by exact HX3.out) (by omega) (by unfold maxLen; omega) (by omega) (by have := HLOW.out; simp at this ⊢; omega) _ rfl ?_
          intro g5 cap w4 hown hgrow hat hlt
          have HOWN := Lib.hid hown
          have HAT := Lib.hid hat
          have HK4 := Lib.hid (Keep.trans (Keep.mono ((Keep.refl (fun _ => False) Wd).alloc' _) (fun _ => False.elim)) (own_keep' hgrow))
          have HQ4 := Lib.hid ((HK4.out.block p (blk_lt HQD.out) (fun e => HNE.out _ e rfl)).trans HQD.out)
          clear hown hgrow hat hlt
          refine hKn.out _ _ ?_ (fun hH => ?_)
          · (exact HK4)
          clear hKn Kn
          try (simp only [Act.put, List.setIfInBounds_toArray]; dsimp only [List.set_cons_zero, List.set_cons_succ])
          refine wpAnyU_pure (i := 9) (v := ?_) rfl (by kernel_rfl) (by kernel_rfl) (by kernel_rfl) (by rfl) (fun _ _ _ h => h) (Or.inl ⟨by rfl, ?_⟩) ?_
          rotate_left
          · (intro w'' _; go_simp; try with_reducible rfl)
          change wpAnyU _ _ _ _ _ _ _ _ (Act.put _ (some 59) _) _
          try (simp only [Act.put, List.setIfInBounds_toArray]; dsimp only [List.set_cons_zero, List.set_cons_succ])
          refine wpAnyU_pure (i := 10) (v := ?_) rfl (by kernel_rfl) (by kernel_rfl) (by kernel_rfl) (by rfl) (fun _ _ _ h => h) (Or.inl ⟨by rfl, ?_⟩) ?_
          rotate_left
          · (intro w'' _; go_simp; try with_reducible rfl)
          change wpAnyU _ _ _ _ _ _ _ _ (Act.put _ (some 60) _) _
          try (simp only [Act.put, List.setIfInBounds_toArray]; dsimp only [List.set_cons_zero, List.set_cons_succ])
          refine wpAnyU_pure (i := 11) (v := ?_) rfl (by kernel_rfl) (by kernel_rfl) (by kernel_rfl) (by rfl) (fun _ _ _ h => h) (Or.inl ⟨by rfl, ?_⟩) ?_
          rotate_left
          · (intro w'' _; go_simp; try with_reducible rfl)
          change wpAnyU _ _ _ _ _ _ _ _ (Act.put _ (some 61) _) _
          try (simp only [Act.put, List.setIfInBounds_toArray]; dsimp only [List.set_cons_zero, List.set_cons_succ])
          refine wpAnyU_ready (rs := [12]) (by kernel_rfl) (by simp) ?_
          refine AllReadyU.last rfl (by rfl) (fun Kn hKn => ?_) AllReadyU.nil
          go_simp
          have q0 := (blk_cell HQ4.out 4).trans rfl
          have f0 := blk_free HQ4.out 4
          go_simp
          refine hKn.out _ _ ?_
          clear hKn Kn
          try (simp only [Act.put, List.setIfInBounds_toArray]; dsimp only [List.set_cons_zero, List.set_cons_succ])
          refine wpAnyU_done (by kernel_rfl) ?_ _
          obtain ⟨w5, hw5⟩ : ∃ w5 : World, w4.setCell ⟨p, 4, none⟩ (.slice (some ⟨g5, 0, none⟩) (j + 1) cap) = w5 := ⟨_, rfl⟩
          have hq5 := blk_set HQ4.out 4 (.slice (some ⟨g5, 0, none⟩) (j + 1) cap)
          rw [hw5] at hq5
          have d0 := (blk_cell hq5 4).trans rfl
          have HFIN := Lib.hid (show BD n w0 p m { T with exits := T.exits ++ [⟨F.map (·.x), bk⟩] } fu (k : Int) C w5 from by
            have hk5 : Keep (fun i => i = p ∨ (Value.slice E9 j ce9).ownBlock = some i) Wd w5 := by rw [← hw5]; exact Keep.trans (Keep.mono HK4.out (fun _ => .inr)) (Keep.mono (keep_set (Keep.refl (fun i => i = p) w4) 4 _) (fun _ => .inl))
            have hRj := HJ.out
            have hne : ∀ t : TypeId, t ≠ 127 → t ≠ 83 → ∀ k cur, Wd.heap[k]? = some (.cells cur t (0, 0)) → ¬ (k = p ∨ (Value.slice E9 j ce9).ownBlock = some k) := by
              rintro t ht1 ht2 k cur hk (rfl | e)
              · rw [HQD.out] at hk; injection hk with hk; injection hk with _ e; exact ht1 e.symm
              · exact blk_own_ne hk HRW.out e ht2 rfl
            obtain ⟨cm, hcm⟩ := HD.out.num.obj
            have hfr : RX.Fits w5 ⟨⟨F.map (·.x), bk⟩, Fa, cf, F⟩ := RX.Fits.keep (w := Wd) ⟨VD3.out.lies, VD3.out.fits, rfl⟩ hk5 (hne _ (by decide) (by decide)) (hne _ (by decide) (by decide))
            refine ⟨A9, ca9, some ⟨g5, 0, none⟩, cap, R9, X9 ++ [⟨⟨F.map (·.x), bk⟩, Fa, cf, F⟩], HD.out.turn hk5 (fun k hk => ?_) ?_ ?_ ?_ ?_ (fun r hr => .inl hr) (fun r hr => ?_) HD.out.ins ?_ (fun k e => .inl e) (fun k e => ?_)⟩
            · rcases hk with rfl | e
              · exact .inl (.inl rfl)
              · exact .inl (.inr (.inr (.inr (by rw [hRj]; exact e))))
            · rw [List.length_append, hRj]
              exact hq5
            · refine HD.out.num.keep hk5 (hne _ (by decide) (by decide) m cm hcm) (fun k hk => ?_)
              rcases hk with rfl | e
              · exact HD.out.low
              · exact (HRW.out.lt k e).1
            · refine hk5.own HD.out.rowA (fun k e => ?_)
              obtain ⟨cur, hc⟩ := own_type HD.out.rowA e
              exact hne _ (by decide) (by decide) k cur hc
            · have e6 : rowX (X9 ++ [⟨⟨F.map (·.x), bk⟩, Fa, cf, F⟩]) = rowX X9 ++ [Value.slice Fa nf cf, .slice none 0 0, .int .i64 bk] := by
                show rowG RX.cells _ = _
                rw [rowG_append, rowG_one]
                show rowG RX.cells X9 ++ [Value.slice Fa F.length cf, .slice none 0 0, .int .i64 bk] = _
                rw [hnf]
              rw [List.length_append, hRj, e6]
              rw [← hw5]
              exact (keep_set (Keep.refl (fun i => i = p) w4) 4 _).own HOWN.out (fun i e => by
                obtain ⟨cur, hc⟩ := own_type HOWN.out e
                exact fun e2 => by subst e2; rw [HQ4.out] at hc; injection hc with hc; injection hc with _ e3; revert e3; decide)
            · rcases List.mem_append.1 hr with hr | hr
              · exact .inl hr
              · obtain rfl := List.mem_singleton.1 hr
                exact .inr hfr
            · rw [List.map_append, HD.out.exits]
              rfl
            · rw [hRj]
              rw [List.length_append, hRj] at e
              rcases HAT.out with e3 | e3
              · exact .inl (e3.trans (by simpa [Value.ownBlock] using e))
              · refine .inr ?_
                have : g5 = k := by simpa [Value.ownBlock] using e
                rw [← this, e3]
                simp)
          rw [hw5]
          clear hq5 hw5
          go_wp2_with fail
          go_ret
          exact ⟨by rw [HJ2.out]; go_num, _, VD3.out.ok, HFIN.out⟩
end
end Go.Proofs.YtnbpgipbfejllaaDoor
