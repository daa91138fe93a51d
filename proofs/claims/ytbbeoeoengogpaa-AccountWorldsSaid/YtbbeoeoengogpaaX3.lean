/- facsimileref06.BentWorld: a copy of a world in which one thing is another one. -/
import Derived.Test.YtbbeoeoengogpaaX2
import Derived.Test.YtbbeoeoengogpaaX1
import Derived.Deep.CutBlock
namespace Go.Proofs.Ytbbeoeoengogpaa
open Go.RowKit Go.Lib
set_option linter.unusedVariables false
set_option linter.unusedSimpArgs false

theorem RA.base {m m' : Nat} {l : List IR} {W : World} (h : RA m l W) (hm : m' ≤ m) : RA m' l W := ⟨fun r hr => own_base (h.own r hr) m' (fun k e => Nat.le_trans hm (own_low (h.own r hr) e)), h.apart⟩
theorem own_some {W : World} {base n size c : Nat} {e : TypeId} {A : Option Addr} {xs : List Value} (h : W.ownsRow base e size (.slice A n c) n xs) (hn : 0 < n) : ∃ g cur, A = some ⟨g, 0, none⟩ ∧ W.heap[g]? = some (.cells cur e (0, 0)) ∧ n * size ≤ cur.size := by
  rcases h.2 with ⟨_, h2⟩ | ⟨g, cap, cur, h1, h2, h3, h4, h5, h6, h7⟩
  · omega
  · injection h1 with h1 _ _
    subst h1
    exact ⟨g, cur, rfl, h3, by rw [h6]; exact Nat.mul_le_mul_right _ h4⟩
/-- A world that is being made, and the numbers in their block. -/
structure BW (w : World) (C B E : Nat) (q : Array Value) (cs : List Value) (A0 : Option Addr) (n0 c0 : Nat) (l0 : List Val) (rs : List IR) (W : World) : Prop where
  mw : MW w C B cs A0 n0 c0 l0 rs W
  qb : W.heap[E]? = some (.cells q 60 (0, 0))
section
variable {w W W1 : World} {C B E : Nat} {q : Array Value} {cs : List Value} {A0 : Option Addr} {n0 c0 : Nat} {l0 : List Val} {rs : List IR}
theorem BW.c (h : BW w C B E q cs A0 n0 c0 l0 rs W) (i : Nat) : W.cell? ⟨C, i, none⟩ = cs[i]? := by
  rw [blk_cell h.mw.blk, List.getElem?_toArray]
theorem BW.f (h : BW w C B E q cs A0 n0 c0 l0 rs W) (i : Nat) : W.frozen? ⟨C, i, none⟩ = false := blk_free h.mw.blk i
theorem BW.quiet (h : BW w C B E q cs A0 n0 c0 l0 rs W) (hk : Keep (fun _ => False) W W1) : BW w C B E q cs A0 n0 c0 l0 rs W1 := ⟨h.mw.quiet hk, (hk.block E (blk_lt h.qb) id).trans h.qb⟩
theorem BW.grow0 (h : BW w C B E q cs A0 n0 c0 l0 rs W) {A : Option Addr} {n c : Nat} {l : List Val} (hg : W.grownBy W1 (Value.slice A0 n0 c0).ownBlock) (ho : W1.ownsRow w.heap.size 75 3 (.slice A n c) n (valc l)) : BW w C B E q cs A n c l rs W1 :=
  ⟨h.mw.grow0 hg ho, blk_grown h.qb hg (fun e => blk_own_ne h.qb h.mw.ins e (by decide) rfl)⟩
theorem BW.growi (h : BW w C B E q cs A0 n0 c0 l0 rs W) (i : Nat) (r : IR) (hi : rs[i]? = some r) {A : Option Addr} {n c : Nat} {xs : List Int} (hg : W.grownBy W1 (Value.slice r.A r.n r.c).ownBlock)
    (ho : W1.ownsRow w.heap.size 3 1 (.slice A n c) n (ints xs)) (hb : (Value.slice A n c).ownBlock = (Value.slice r.A r.n r.c).ownBlock ∨ (Value.slice A n c).ownBlock = some W.heap.size) : BW w C B E q cs A0 n0 c0 l0 (rs.set i ⟨A, n, c, xs⟩) W1 :=
  ⟨h.mw.growi i r hi hg ho hb, blk_grown h.qb hg (fun e => blk_own_ne h.qb (h.mw.rows.own r (List.mem_of_getElem? hi)) e (by decide) rfl)⟩
theorem BW.set (h : BW w C B E q cs A0 n0 c0 l0 rs W) (k : Nat) (v : Value) : BW w C B E q (cs.set k v) A0 n0 c0 l0 rs (W.setCell ⟨C, k, none⟩ v) := by
  refine ⟨h.mw.set k v, ((keep_set (Keep.refl (fun i => i = C) W) k v).block E (blk_lt h.qb) (fun e => ?_)).trans h.qb⟩
  have h1 := h.mw.blk
  have h2 := h.qb
  rw [e, h1] at h2
  injection h2 with h2
  injection h2 with _ h4
  exact absurd h4 (by decide)
end
/-- What BentWorld has made when it has bent the copy. -/
def BE (w : World) (C B N : Nat) (W : World) : Prop := ∃ (A0 A1 A2 A3 A4 : Option Addr) (n0 n1 n2 n3 n4 c0 c1 c2 c3 c4 : Nat) (l0 : List Val) (x1 x2 x3 x4 : List Int) (ep : Int),
  MW w C B [.slice A0 n0 c0, .slice A1 n1 c1, .slice A2 n2 c2, .slice A3 n3 c3, .slice A4 n4 c4, .int .i64 ep] A0 n0 c0 l0 [⟨A1, n1, c1, x1⟩, ⟨A2, n2, c2, x2⟩, ⟨A3, n3, c3, x3⟩, ⟨A4, n4, c4, x4⟩] W ∧
  (∀ v ∈ l0, PlainS v.s) ∧ (n0 ≤ N + 1001 ∧ n1 ≤ N + 1001 ∧ n2 ≤ N + 1001 ∧ n3 ≤ N + 1001 ∧ n4 ≤ N + 1001) ∧ 0 < n3 ∧ 0 < n4
def Len (d : WD) (N : Nat) : Prop := d.ins.length ≤ N ∧ d.clocks.length ≤ N ∧ d.choices.length ≤ N ∧ d.fuel.length ≤ N ∧ d.limit.length ≤ N

set_option maxRecDepth 100000 in
set_option maxHeartbeats 16000000 in
theorem bent_any {w : World} {d : WD} {s : WS} (h : WR w d s) (hp : 0 < d.fuel.length ∧ 0 < d.limit.length) (N : Nat) (hN : N ≤ 50000) (hL : Len d N) (q0 q1 q2 : Int) :
    Calls Try.prog 28 #[.agg #[.slice s.A0 d.ins.length s.c0, .slice s.A1 d.clocks.length s.c1, .slice s.A2 d.choices.length s.c2, .slice s.A3 d.fuel.length s.c3, .slice s.A4 d.limit.length s.c4, .int .i64 d.epoch], .agg #[.int .i64 q0, .int .i64 q1, .int .i64 q2]] w (WOut (fun d' => (0 < d'.fuel.length ∧ 0 < d'.limit.length) ∧ Len d' (N + 1001)) w) := by
  have H := Lib.hid h
  clear h
  obtain ⟨i0, hi, hz0, hz1, hz2⟩ := info_parts (show (Try.prog.info? 75).map (fun i => (i.zero, i.size, i.bytes)) = some (some (.agg #[.int .i64 0, .int .i64 0, .string ⟨#[]⟩]), 3, 32) by kernel_rfl)
  obtain ⟨j0, gi, gz0, gz1, gz2⟩ := info_parts (show (Try.prog.info? 3).map (fun i => (i.zero, i.size, i.bytes)) = some (some (.int .i64 0), 1, 8) by kernel_rfl)
  have HI := Lib.hid hi
  have HZ0 := Lib.hid hz0
  have HZ1 := Lib.hid hz1
  have HZ2 := Lib.hid hz2
  have GI := Lib.hid gi
  have GZ0 := Lib.hid gz0
  have GZ1 := Lib.hid gz1
  have GZ2 := Lib.hid gz2
  clear hi hz0 hz1 hz2 gi gz0 gz1 gz2
  go_enter Try.func28, Try.ntmps28
  go_upto_block 0 with (fail)
  have K3 := Lib.hid (Since.of (n := w.heap.size) ((((Keep.refl (fun _ => False) w).alloc' (.cells #[.slice s.A0 d.ins.length s.c0, .slice s.A1 d.clocks.length s.c1, .slice s.A2 d.choices.length s.c2, .slice s.A3 d.fuel.length s.c3, .slice s.A4 d.limit.length s.c4, .int .i64 d.epoch] 63)).alloc' (.cells #[.int .i64 q0, .int .i64 q1, .int .i64 q2] 60)).alloc' (.cells #[.slice none 0 0, .slice none 0 0, .slice none 0 0, .slice none 0 0, .slice none 0 0, .int .i64 0] 63)))
  ((with_reducible refine (copy_any (H.out.since K3.out)).mono ?_); rintro e w1 ⟨A0, A1, A2, A3, A4, c0, c1, c2, c3, c4, rfl, ho, hra, hsi⟩)
  have V0 : Hid (BW w w1.heap.size (w.heap.size + 1 + 1) (w.heap.size + 1) #[.int .i64 q0, .int .i64 q1, .int .i64 q2] [.slice A0 d.ins.length c0, .slice A1 d.clocks.length c1, .slice A2 d.choices.length c2, .slice A3 d.fuel.length c3, .slice A4 d.limit.length c4, .int .i64 d.epoch] A0 d.ins.length c0 d.ins [⟨A1, d.clocks.length, c1, d.clocks⟩, ⟨A2, d.choices.length, c2, d.choices⟩, ⟨A3, d.fuel.length, c3, d.fuel⟩, ⟨A4, d.limit.length, c4, d.limit⟩] (w1.alloc (.cells #[.slice A0 d.ins.length c0, .slice A1 d.clocks.length c1, .slice A2 d.choices.length c2, .slice A3 d.fuel.length c3, .slice A4 d.limit.length c4, .int .i64 d.epoch] 63))) := by
    have hs3 : (((w.alloc (.cells #[.slice s.A0 d.ins.length s.c0, .slice s.A1 d.clocks.length s.c1, .slice s.A2 d.choices.length s.c2, .slice s.A3 d.fuel.length s.c3, .slice s.A4 d.limit.length s.c4, .int .i64 d.epoch] 63)).alloc (.cells #[.int .i64 q0, .int .i64 q1, .int .i64 q2] 60)).alloc (.cells #[.slice none 0 0, .slice none 0 0, .slice none 0 0, .slice none 0 0, .slice none 0 0, .int .i64 0] 63)).heap.size = w.heap.size + 3 := by simp
    have kA := (Keep.refl (fun _ => False) w1).alloc' (.cells #[.slice A0 d.ins.length c0, .slice A1 d.clocks.length c1, .slice A2 d.choices.length c2, .slice A3 d.fuel.length c3, .slice A4 d.limit.length c4, .int .i64 d.epoch] 63)
    have hres : w1.heap[w.heap.size + 1 + 1]? = some (.cells #[.slice none 0 0, .slice none 0 0, .slice none 0 0, .slice none 0 0, .slice none 0 0, .int .i64 0] 63 (0, 0)) := by
      refine (hsi.block _ (by omega) (by omega)).trans ?_
      have := heap_alloc_new ((w.alloc (.cells #[.slice s.A0 d.ins.length s.c0, .slice s.A1 d.clocks.length s.c1, .slice s.A2 d.choices.length s.c2, .slice s.A3 d.fuel.length s.c3, .slice s.A4 d.limit.length s.c4, .int .i64 d.epoch] 63)).alloc (.cells #[.int .i64 q0, .int .i64 q1, .int .i64 q2] 60)) (.cells #[.slice none 0 0, .slice none 0 0, .slice none 0 0, .slice none 0 0, .slice none 0 0, .int .i64 0] 63)
      simpa using this
    have hqb : w1.heap[w.heap.size + 1]? = some (.cells #[.int .i64 q0, .int .i64 q1, .int .i64 q2] 60 (0, 0)) := by
      refine (hsi.block _ (by omega) (by omega)).trans ?_
      exact alloc_old' (by simpa using heap_alloc_new (w.alloc (.cells #[.slice s.A0 d.ins.length s.c0, .slice s.A1 d.clocks.length s.c1, .slice s.A2 d.choices.length s.c2, .slice s.A3 d.fuel.length s.c3, .slice s.A4 d.limit.length s.c4, .int .i64 d.epoch] 63)) (.cells #[.int .i64 q0, .int .i64 q1, .int .i64 q2] 60))
    have hsz := hsi.size
    exact Lib.hid ⟨⟨heap_alloc_new _ _, kA.own (own_base ho _ (fun k e => by have := own_low ho e; omega)) (fun _ _ => id), (hra.base (by omega)).keep kA (fun _ _ _ _ => id), Keep.trans K3.out (Keep.trans (Since.mono hsi (by omega)) (Since.of kA)), by omega, (kA.block _ (blk_lt hres) id).trans hres, by omega⟩, (kA.block _ (blk_lt hqb) id).trans hqb⟩
  have LB := Lib.hid (show w.heap.size ≤ w.heap.size + 1 + 1 by omega)
  clear ho hra hsi K3
  go_upto_region 2 with (fail)
  obtain ⟨W2, hW⟩ : ∃ W2, w1.alloc (.cells #[.slice A0 d.ins.length c0, .slice A1 d.clocks.length c1, .slice A2 d.choices.length c2, .slice A3 d.fuel.length c3, .slice A4 d.limit.length c4, .int .i64 d.epoch] 63) = W2 := ⟨_, rfl⟩
  rw [hW] at V0
  rw [hW]
  obtain ⟨C, hC⟩ : ∃ C, w1.heap.size = C := ⟨_, rfl⟩
  rw [hC] at V0
  rw [hC]
  obtain ⟨E, hE⟩ : ∃ E, w.heap.size + 1 = E := ⟨_, rfl⟩
  rw [hE] at V0 LB
  rw [hE]
  obtain ⟨B, hB⟩ : ∃ B, E + 1 = B := ⟨_, rfl⟩
  rw [hB] at V0 LB
  rw [hB]
  clear hW hC hE hB
  have PLs := Lib.hid H.out.plain
  unfold Len at hL
  obtain ⟨n0, e0⟩ : ∃ n, d.ins.length = n := ⟨_, rfl⟩
  obtain ⟨n1, e1⟩ : ∃ n, d.clocks.length = n := ⟨_, rfl⟩
  obtain ⟨n2, e2⟩ : ∃ n, d.choices.length = n := ⟨_, rfl⟩
  obtain ⟨n3, e3⟩ : ∃ n, d.fuel.length = n := ⟨_, rfl⟩
  obtain ⟨n4, e4⟩ : ∃ n, d.limit.length = n := ⟨_, rfl⟩
  rw [e0, e1, e2, e3, e4] at V0 hL
  rw [e3, e4] at hp
  rw [e0, e1, e2, e3, e4]
  obtain ⟨l0, f0⟩ : ∃ l, d.ins = l := ⟨_, rfl⟩
  obtain ⟨x1, f1⟩ : ∃ l, d.clocks = l := ⟨_, rfl⟩
  obtain ⟨x2, f2⟩ : ∃ l, d.choices = l := ⟨_, rfl⟩
  obtain ⟨x3, f3⟩ : ∃ l, d.fuel = l := ⟨_, rfl⟩
  obtain ⟨x4, f4⟩ : ∃ l, d.limit = l := ⟨_, rfl⟩
  obtain ⟨ep, f5⟩ : ∃ l, d.epoch = l := ⟨_, rfl⟩
  rw [f0, f1, f2, f3, f4, f5] at V0
  rw [f0] at PLs
  rw [f5]
  clear e0 e1 e2 e3 e4 f0 f1 f2 f3 f4 f5 H
  have d0 : W2.cell? ⟨C, 0, none⟩ = some (.slice A0 n0 c0) := V0.out.c 0
  have f0 := V0.out.f 0
  have d1 : W2.cell? ⟨C, 1, none⟩ = some (.slice A1 n1 c1) := V0.out.c 1
  have f1 := V0.out.f 1
  have d2 : W2.cell? ⟨C, 2, none⟩ = some (.slice A2 n2 c2) := V0.out.c 2
  have f2 := V0.out.f 2
  have d3 : W2.cell? ⟨C, 3, none⟩ = some (.slice A3 n3 c3) := V0.out.c 3
  have f3 := V0.out.f 3
  have d4 : W2.cell? ⟨C, 4, none⟩ = some (.slice A4 n4 c4) := V0.out.c 4
  have f4 := V0.out.f 4
  have d5 : W2.cell? ⟨C, 5, none⟩ = some (.int .i64 ep) := V0.out.c 5
  have f5 := V0.out.f 5
  have z0 : W2.cell? ⟨E, 0, none⟩ = some (.int .i64 q0) := (blk_cell V0.out.qb 0).trans rfl
  have z1 : W2.cell? ⟨E, 1, none⟩ = some (.int .i64 q1) := (blk_cell V0.out.qb 1).trans rfl
  have z2 : W2.cell? ⟨E, 2, none⟩ = some (.int .i64 q2) := (blk_cell V0.out.qb 2).trans rfl
  obtain ⟨r, hr, hM⟩ := mod1_any q0 9 (by omega)
  have HM := Lib.hid hM
  clear hM
  go_upto_block 0 with (fail)
  ((with_reducible refine (HM.out _).mono ?_); rintro e w' ⟨rfl, rfl⟩)
  clear HM
  go_upto_block 0 with (fail)
  go_cut [] from 6 (fun wx => Hid (BE w C B N wx))
  case first =>
    rcases (show r = 0 ∨ r = 1 ∨ r = 2 ∨ r = 3 ∨ r = 4 ∨ r = 5 ∨ r = 6 ∨ r = 7 ∨ r = 8 by omega) with rfl | rfl | rfl | rfl | rfl | rfl | rfl | rfl | rfl
    · go_wp2_with (at_builtin; refine wpList_append_lies _ rfl _ _ _ rfl w.heap.size 75 i0 _ 3 32 Try.underlying52 HI.out HZ0.out HZ1.out HZ2.out rfl (by decide) (.slice A0 n0 c0) n0 (valc l0) rfl (by exact V0.out.mw.ins.alloc _) ⟨_, 0, none⟩ 1 1 _ rfl rfl (by exact World.news_of_block (heap_alloc_new _ _)) (by simp [Value.oneCell']) (by omega) (by unfold maxLen; omega) (by omega) (by have := V0.out.mw.since.size; simp; omega) _ rfl ?_; intro g cap w3 hown hgrow hat hlt; have VY := Lib.hid ((V0.out.quiet ((Keep.refl _ W2).alloc' _)).grow0 (l := l0 ++ [⟨q1, q2, ⟨#[]⟩⟩]) hgrow (by rw [vals_snoc]; exact hown)); have f0 := VY.out.f 0; have d0 : w3.cell? ⟨C, 0, none⟩ = some (.slice A0 n0 c0) := VY.out.c 0; clear hown hgrow hat hlt)
      go_meet
      exact Lib.hid ⟨_, _, _, _, _, _, _, _, _, _, _, _, _, _, _, _, _, _, _, _, _, (VY.out.set 0 _).mw, mem_snoc PLs.out plain_empty, by omega, by omega, by omega⟩
    · go_wp2_with (at_builtin; refine wpList_append_lies _ rfl _ _ _ rfl w.heap.size 3 j0 _ 1 8 Try.underlying22 GI.out GZ0.out GZ1.out GZ2.out rfl (by decide) (.slice A1 n1 c1) n1 (ints x1) rfl (by exact (V0.out.mw.rows.own ⟨A1, n1, c1, x1⟩ (by simp)).alloc _) ⟨_, 0, none⟩ 1 1 [.int .i64 (q2)] rfl rfl (by exact World.news_of_block (heap_alloc_new _ _)) (by simp [Value.oneCell']) (by omega) (by unfold maxLen; omega) (by omega) (by have := V0.out.mw.since.size; simp; omega) _ rfl ?_; intro g cap w3 hown hgrow hat hlt; have VY := Lib.hid ((V0.out.quiet ((Keep.refl _ W2).alloc' _)).growi 0 ⟨A1, n1, c1, x1⟩ rfl (xs := x1 ++ [q2]) hgrow (by rw [ints_snoc]; exact hown) (own_or hat)); have f1 := VY.out.f 1; have d1 : w3.cell? ⟨C, 1, none⟩ = some (.slice A1 n1 c1) := VY.out.c 1; clear hown hgrow hat hlt)
      go_meet
      exact Lib.hid ⟨_, _, _, _, _, _, _, _, _, _, _, _, _, _, _, _, _, _, _, _, _, (VY.out.set 1 _).mw, PLs.out, by omega, by omega, by omega⟩
    · go_wp2_with (at_builtin; refine wpList_append_lies _ rfl _ _ _ rfl w.heap.size 3 j0 _ 1 8 Try.underlying22 GI.out GZ0.out GZ1.out GZ2.out rfl (by decide) (.slice A2 n2 c2) n2 (ints x2) rfl (by exact (V0.out.mw.rows.own ⟨A2, n2, c2, x2⟩ (by simp)).alloc _) ⟨_, 0, none⟩ 1 1 [.int .i64 (q2)] rfl rfl (by exact World.news_of_block (heap_alloc_new _ _)) (by simp [Value.oneCell']) (by omega) (by unfold maxLen; omega) (by omega) (by have := V0.out.mw.since.size; simp; omega) _ rfl ?_; intro g cap w3 hown hgrow hat hlt; have VY := Lib.hid ((V0.out.quiet ((Keep.refl _ W2).alloc' _)).growi 1 ⟨A2, n2, c2, x2⟩ rfl (xs := x2 ++ [q2]) hgrow (by rw [ints_snoc]; exact hown) (own_or hat)); have f2 := VY.out.f 2; have d2 : w3.cell? ⟨C, 2, none⟩ = some (.slice A2 n2 c2) := VY.out.c 2; clear hown hgrow hat hlt)
      go_meet
      exact Lib.hid ⟨_, _, _, _, _, _, _, _, _, _, _, _, _, _, _, _, _, _, _, _, _, (VY.out.set 2 _).mw, PLs.out, by omega, by omega, by omega⟩
    · obtain ⟨m, hm, hM3⟩ := mod1_any q1 n3 (by omega)
      have HM3 := Lib.hid hM3
      obtain ⟨j, rfl⟩ := Int.eq_ofNat_of_zero_le hm.1
      have hj : j < n3 := by omega
      have hji : (j : Int) < (n3 : Int) := by omega
      obtain ⟨g, cur, rfl, hg, hcur⟩ := own_some (V0.out.mw.rows.own ⟨A3, n3, c3, x3⟩ (by simp)) (by simp only; omega)
      have fg := blk_free hg j
      obtain ⟨u, hu⟩ : ∃ u, cur[j]? = some u := ⟨_, Array.getElem?_eq_getElem (by simp only at hcur; omega)⟩
      have cg : W2.cell? ⟨g, j, none⟩ = some u := (blk_cell hg j).trans hu
      clear hM3 hm hg hu hcur
      go_upto_region 10 with (fail)
      refine wp_region_drewU (S := (fun w' => Hid (BW w C B E #[.int .i64 q0, .int .i64 q1, .int .i64 q2] [.slice A0 n0 c0, .slice A1 n1 c1, .slice A2 n2 c2, .slice (some ⟨g, 0, none⟩) n3 c3, .slice A4 n4 c4, .int .i64 ep] A0 n0 c0 l0 [⟨A1, n1, c1, x1⟩, ⟨A2, n2, c2, x2⟩, ⟨some ⟨g, 0, none⟩, n3, c3, x3⟩, ⟨A4, n4, c4, x4⟩] w'))) (D := [11]) (by kernel_rfl) (by exact Lib.hid (V0.out.quiet (keep_draw _ W2))) (fun hH => ?_)
      refine wpAnyU_take (i := 0) (v := ?_) rfl (by kernel_rfl) (by kernel_rfl) (by kernel_rfl) (by kernel_rfl) (fun _ _ _ h => h) (Or.inl ⟨by rfl, ?_⟩) hH ?_
      rotate_left
      · (intro w'' hSw; (try dsimp only at hSw); go_simp; try with_reducible rfl)
      change wpAnyU _ _ _ _ _ _ _ _ (Act.put _ (some 44) _) _
      try simp only [Act.put, List.setIfInBounds_toArray, List.set_cons_zero, List.set_cons_succ]
      refine wpAnyU_take (i := 1) (v := ?_) rfl (by kernel_rfl) (by kernel_rfl) (by kernel_rfl) (by kernel_rfl) (fun _ _ _ h => h) (Or.inl ⟨by rfl, ?_⟩) hH ?_
      rotate_left
      · (intro w'' hSw; have hc : w''.cell? ⟨C, 3, none⟩ = some (.slice (some ⟨g, 0, none⟩) n3 c3) := hSw.out.c 3; go_simp; try with_reducible rfl)
      change wpAnyU _ _ _ _ _ _ _ _ (Act.put _ (some 45) _) _
      try simp only [Act.put, List.setIfInBounds_toArray, List.set_cons_zero, List.set_cons_succ]
      refine wpAnyU_take (i := 2) (v := ?_) rfl (by kernel_rfl) (by kernel_rfl) (by kernel_rfl) (by kernel_rfl) (fun _ _ _ h => h) (Or.inl ⟨by rfl, ?_⟩) hH ?_
      rotate_left
      · (intro w'' hSw; (try dsimp only at hSw); go_simp; try with_reducible rfl)
      change wpAnyU _ _ _ _ _ _ _ _ (Act.put _ (some 46) _) _
      try simp only [Act.put, List.setIfInBounds_toArray, List.set_cons_zero, List.set_cons_succ]
      refine wpAnyU_take (i := 3) (v := ?_) rfl (by kernel_rfl) (by kernel_rfl) (by kernel_rfl) (by kernel_rfl) (fun _ _ _ h => h) (Or.inl ⟨by rfl, ?_⟩) hH ?_
      rotate_left
      · (intro w'' hSw; have hc : w''.cell? ⟨E, 1, none⟩ = some (.int .i64 q1) := (blk_cell hSw.out.qb 1).trans rfl; go_simp; try with_reducible rfl)
      change wpAnyU _ _ _ _ _ _ _ _ (Act.put _ (some 47) _) _
      try simp only [Act.put, List.setIfInBounds_toArray, List.set_cons_zero, List.set_cons_succ]
      refine wpAnyU_take (i := 4) (v := ?_) rfl (by kernel_rfl) (by kernel_rfl) (by kernel_rfl) (by kernel_rfl) (fun _ _ _ h => h) (Or.inl ⟨by rfl, ?_⟩) hH ?_
      rotate_left
      · (intro w'' hSw; (try dsimp only at hSw); go_simp; try with_reducible rfl)
      change wpAnyU _ _ _ _ _ _ _ _ (Act.put _ (some 48) _) _
      try simp only [Act.put, List.setIfInBounds_toArray, List.set_cons_zero, List.set_cons_succ]
      refine wpAnyU_take (i := 5) (v := ?_) rfl (by kernel_rfl) (by kernel_rfl) (by kernel_rfl) (by kernel_rfl) (fun _ _ _ h => h) (Or.inl ⟨by rfl, ?_⟩) hH ?_
      rotate_left
      · (intro w'' hSw; have hc : w''.cell? ⟨C, 3, none⟩ = some (.slice (some ⟨g, 0, none⟩) n3 c3) := hSw.out.c 3; go_simp; try with_reducible rfl)
      change wpAnyU _ _ _ _ _ _ _ _ (Act.put _ (some 49) _) _
      try simp only [Act.put, List.setIfInBounds_toArray, List.set_cons_zero, List.set_cons_succ]
      refine wpAnyU_take (i := 6) (v := ?_) rfl (by kernel_rfl) (by kernel_rfl) (by kernel_rfl) (by kernel_rfl) (fun _ _ _ h => h) (Or.inl ⟨by rfl, ?_⟩) hH ?_
      rotate_left
      · (intro w'' hSw; (try dsimp only at hSw); go_simp; try with_reducible rfl)
      change wpAnyU _ _ _ _ _ _ _ _ (Act.put _ (some 50) _) _
      try simp only [Act.put, List.setIfInBounds_toArray, List.set_cons_zero, List.set_cons_succ]
      refine wpAnyU_take (i := 8) (v := ?_) rfl (by kernel_rfl) (by kernel_rfl) (by kernel_rfl) (by kernel_rfl) (fun _ _ _ h => h) (Or.inl ⟨by rfl, ?_⟩) hH ?_
      rotate_left
      · (intro w'' hSw; (try dsimp only at hSw); go_simp; try with_reducible rfl)
      change wpAnyU _ _ _ _ _ _ _ _ (Act.put _ (some 52) _) _
      try simp only [Act.put, List.setIfInBounds_toArray, List.set_cons_zero, List.set_cons_succ]
      refine wpAnyU_take (i := 9) (v := ?_) rfl (by kernel_rfl) (by kernel_rfl) (by kernel_rfl) (by kernel_rfl) (fun _ _ _ h => h) (Or.inl ⟨by rfl, ?_⟩) hH ?_
      rotate_left
      · (intro w'' hSw; have hc : w''.cell? ⟨E, 2, none⟩ = some (.int .i64 q2) := (blk_cell hSw.out.qb 2).trans rfl; go_simp; try with_reducible rfl)
      change wpAnyU _ _ _ _ _ _ _ _ (Act.put _ (some 53) _) _
      try simp only [Act.put, List.setIfInBounds_toArray, List.set_cons_zero, List.set_cons_succ]
      refine wpAnyU_ready (rs := [7]) (by kernel_rfl) (by simp) ?_
      refine AllReadyU.cons rfl (fun Kn hKn => ?_) AllReadyU.nil
      go_simp
      go_at_call 38
      (with_reducible refine (HM3.out _).mono ?_)
      rintro e wn ⟨rfl, rfl⟩
      refine hKn.out _ _ ?_ (fun hH => ?_)
      · (exact hH)
      clear hKn Kn
      try simp only [Act.put, List.setIfInBounds_toArray, List.set_cons_zero, List.set_cons_succ]
      refine wpAnyU_ready (rs := [10]) (by kernel_rfl) (by simp) ?_
      refine AllReadyU.cons rfl (fun Kn hKn => ?_) AllReadyU.nil
      go_simp
      refine hKn.out _ _ ?_ (fun hH => ?_)
      · (exact hH)
      clear hKn Kn
      try simp only [Act.put, List.setIfInBounds_toArray, List.set_cons_zero, List.set_cons_succ]
      refine wpAnyU_ready (rs := [11]) (by kernel_rfl) (by simp) ?_
      refine AllReadyU.last rfl (by rfl) (fun Kn hKn => ?_) AllReadyU.nil
      go_simp
      refine hKn.out _ _ ?_
      clear hKn Kn
      try simp only [Act.put, List.setIfInBounds_toArray, List.set_cons_zero, List.set_cons_succ]
      refine wpAnyU_done (by kernel_rfl) ?_ _
      go_wp2_with fail
      go_meet
      exact Lib.hid ⟨_, _, _, _, _, _, _, _, _, _, _, _, _, _, _, _, _, _, _, _, _, ((V0.out.quiet (keep_draw _ W2)).mw.put 2 ⟨some ⟨g, 0, none⟩, n3, c3, x3⟩ rfl rfl j hj q2), PLs.out, by omega, by omega, by omega⟩
    · obtain ⟨m, hm, hM3⟩ := mod1_any q1 n4 (by omega)
      have HM3 := Lib.hid hM3
      obtain ⟨j, rfl⟩ := Int.eq_ofNat_of_zero_le hm.1
      have hj : j < n4 := by omega
      have hji : (j : Int) < (n4 : Int) := by omega
      obtain ⟨g, cur, rfl, hg, hcur⟩ := own_some (V0.out.mw.rows.own ⟨A4, n4, c4, x4⟩ (by simp)) (by simp only; omega)
      have fg := blk_free hg j
      obtain ⟨u, hu⟩ : ∃ u, cur[j]? = some u := ⟨_, Array.getElem?_eq_getElem (by simp only at hcur; omega)⟩
      have cg : W2.cell? ⟨g, j, none⟩ = some u := (blk_cell hg j).trans hu
      clear hM3 hm hg hu hcur
      go_upto_region 12 with (fail)
      refine wp_region_drewU (S := (fun w' => Hid (BW w C B E #[.int .i64 q0, .int .i64 q1, .int .i64 q2] [.slice A0 n0 c0, .slice A1 n1 c1, .slice A2 n2 c2, .slice A3 n3 c3, .slice (some ⟨g, 0, none⟩) n4 c4, .int .i64 ep] A0 n0 c0 l0 [⟨A1, n1, c1, x1⟩, ⟨A2, n2, c2, x2⟩, ⟨A3, n3, c3, x3⟩, ⟨some ⟨g, 0, none⟩, n4, c4, x4⟩] w'))) (D := [11]) (by kernel_rfl) (by exact Lib.hid (V0.out.quiet (keep_draw _ W2))) (fun hH => ?_)
      refine wpAnyU_take (i := 0) (v := ?_) rfl (by kernel_rfl) (by kernel_rfl) (by kernel_rfl) (by kernel_rfl) (fun _ _ _ h => h) (Or.inl ⟨by rfl, ?_⟩) hH ?_
      rotate_left
      · (intro w'' hSw; (try dsimp only at hSw); go_simp; try with_reducible rfl)
      change wpAnyU _ _ _ _ _ _ _ _ (Act.put _ (some 57) _) _
      try simp only [Act.put, List.setIfInBounds_toArray, List.set_cons_zero, List.set_cons_succ]
      refine wpAnyU_take (i := 1) (v := ?_) rfl (by kernel_rfl) (by kernel_rfl) (by kernel_rfl) (by kernel_rfl) (fun _ _ _ h => h) (Or.inl ⟨by rfl, ?_⟩) hH ?_
      rotate_left
      · (intro w'' hSw; have hc : w''.cell? ⟨C, 4, none⟩ = some (.slice (some ⟨g, 0, none⟩) n4 c4) := hSw.out.c 4; go_simp; try with_reducible rfl)
      change wpAnyU _ _ _ _ _ _ _ _ (Act.put _ (some 58) _) _
      try simp only [Act.put, List.setIfInBounds_toArray, List.set_cons_zero, List.set_cons_succ]
      refine wpAnyU_take (i := 2) (v := ?_) rfl (by kernel_rfl) (by kernel_rfl) (by kernel_rfl) (by kernel_rfl) (fun _ _ _ h => h) (Or.inl ⟨by rfl, ?_⟩) hH ?_
      rotate_left
      · (intro w'' hSw; (try dsimp only at hSw); go_simp; try with_reducible rfl)
      change wpAnyU _ _ _ _ _ _ _ _ (Act.put _ (some 59) _) _
      try simp only [Act.put, List.setIfInBounds_toArray, List.set_cons_zero, List.set_cons_succ]
      refine wpAnyU_take (i := 3) (v := ?_) rfl (by kernel_rfl) (by kernel_rfl) (by kernel_rfl) (by kernel_rfl) (fun _ _ _ h => h) (Or.inl ⟨by rfl, ?_⟩) hH ?_
      rotate_left
      · (intro w'' hSw; have hc : w''.cell? ⟨E, 1, none⟩ = some (.int .i64 q1) := (blk_cell hSw.out.qb 1).trans rfl; go_simp; try with_reducible rfl)
      change wpAnyU _ _ _ _ _ _ _ _ (Act.put _ (some 60) _) _
      try simp only [Act.put, List.setIfInBounds_toArray, List.set_cons_zero, List.set_cons_succ]
      refine wpAnyU_take (i := 4) (v := ?_) rfl (by kernel_rfl) (by kernel_rfl) (by kernel_rfl) (by kernel_rfl) (fun _ _ _ h => h) (Or.inl ⟨by rfl, ?_⟩) hH ?_
      rotate_left
      · (intro w'' hSw; (try dsimp only at hSw); go_simp; try with_reducible rfl)
      change wpAnyU _ _ _ _ _ _ _ _ (Act.put _ (some 61) _) _
      try simp only [Act.put, List.setIfInBounds_toArray, List.set_cons_zero, List.set_cons_succ]
      refine wpAnyU_take (i := 5) (v := ?_) rfl (by kernel_rfl) (by kernel_rfl) (by kernel_rfl) (by kernel_rfl) (fun _ _ _ h => h) (Or.inl ⟨by rfl, ?_⟩) hH ?_
      rotate_left
      · (intro w'' hSw; have hc : w''.cell? ⟨C, 4, none⟩ = some (.slice (some ⟨g, 0, none⟩) n4 c4) := hSw.out.c 4; go_simp; try with_reducible rfl)
      change wpAnyU _ _ _ _ _ _ _ _ (Act.put _ (some 62) _) _
      try simp only [Act.put, List.setIfInBounds_toArray, List.set_cons_zero, List.set_cons_succ]
      refine wpAnyU_take (i := 6) (v := ?_) rfl (by kernel_rfl) (by kernel_rfl) (by kernel_rfl) (by kernel_rfl) (fun _ _ _ h => h) (Or.inl ⟨by rfl, ?_⟩) hH ?_
      rotate_left
      · (intro w'' hSw; (try dsimp only at hSw); go_simp; try with_reducible rfl)
      change wpAnyU _ _ _ _ _ _ _ _ (Act.put _ (some 63) _) _
      try simp only [Act.put, List.setIfInBounds_toArray, List.set_cons_zero, List.set_cons_succ]
      refine wpAnyU_take (i := 8) (v := ?_) rfl (by kernel_rfl) (by kernel_rfl) (by kernel_rfl) (by kernel_rfl) (fun _ _ _ h => h) (Or.inl ⟨by rfl, ?_⟩) hH ?_
      rotate_left
      · (intro w'' hSw; (try dsimp only at hSw); go_simp; try with_reducible rfl)
      change wpAnyU _ _ _ _ _ _ _ _ (Act.put _ (some 65) _) _
      try simp only [Act.put, List.setIfInBounds_toArray, List.set_cons_zero, List.set_cons_succ]
      refine wpAnyU_take (i := 9) (v := ?_) rfl (by kernel_rfl) (by kernel_rfl) (by kernel_rfl) (by kernel_rfl) (fun _ _ _ h => h) (Or.inl ⟨by rfl, ?_⟩) hH ?_
      rotate_left
      · (intro w'' hSw; have hc : w''.cell? ⟨E, 2, none⟩ = some (.int .i64 q2) := (blk_cell hSw.out.qb 2).trans rfl; go_simp; try with_reducible rfl)
      change wpAnyU _ _ _ _ _ _ _ _ (Act.put _ (some 66) _) _
      try simp only [Act.put, List.setIfInBounds_toArray, List.set_cons_zero, List.set_cons_succ]
      refine wpAnyU_ready (rs := [7]) (by kernel_rfl) (by simp) ?_
      refine AllReadyU.cons rfl (fun Kn hKn => ?_) AllReadyU.nil
      go_simp
      go_at_call 38
      (with_reducible refine (HM3.out _).mono ?_)
      rintro e wn ⟨rfl, rfl⟩
      refine hKn.out _ _ ?_ (fun hH => ?_)
      · (exact hH)
      clear hKn Kn
      try simp only [Act.put, List.setIfInBounds_toArray, List.set_cons_zero, List.set_cons_succ]
      refine wpAnyU_ready (rs := [10]) (by kernel_rfl) (by simp) ?_
      refine AllReadyU.cons rfl (fun Kn hKn => ?_) AllReadyU.nil
      go_simp
      refine hKn.out _ _ ?_ (fun hH => ?_)
      · (exact hH)
      clear hKn Kn
      try simp only [Act.put, List.setIfInBounds_toArray, List.set_cons_zero, List.set_cons_succ]
      refine wpAnyU_ready (rs := [11]) (by kernel_rfl) (by simp) ?_
      refine AllReadyU.last rfl (by rfl) (fun Kn hKn => ?_) AllReadyU.nil
      go_simp
      refine hKn.out _ _ ?_
      clear hKn Kn
      try simp only [Act.put, List.setIfInBounds_toArray, List.set_cons_zero, List.set_cons_succ]
      refine wpAnyU_done (by kernel_rfl) ?_ _
      go_wp2_with fail
      go_meet
      exact Lib.hid ⟨_, _, _, _, _, _, _, _, _, _, _, _, _, _, _, _, _, _, _, _, _, ((V0.out.quiet (keep_draw _ W2)).mw.put 3 ⟨some ⟨g, 0, none⟩, n4, c4, x4⟩ rfl rfl j hj q2), PLs.out, by omega, by omega, by omega⟩
    · go_wp2_with (at_builtin; refine wpList_append_lies _ rfl _ _ _ rfl w.heap.size 3 j0 _ 1 8 Try.underlying22 GI.out GZ0.out GZ1.out GZ2.out rfl (by decide) (.slice A3 n3 c3) n3 (ints x3) rfl (by exact (V0.out.mw.rows.own ⟨A3, n3, c3, x3⟩ (by simp)).alloc _) ⟨_, 0, none⟩ 1 1 [.int .i64 (1)] rfl rfl (by exact World.news_of_block (heap_alloc_new _ _)) (by simp [Value.oneCell']) (by omega) (by unfold maxLen; omega) (by omega) (by have := V0.out.mw.since.size; simp; omega) _ rfl ?_; intro g cap w3 hown hgrow hat hlt; have VY := Lib.hid ((V0.out.quiet ((Keep.refl _ W2).alloc' _)).growi 2 ⟨A3, n3, c3, x3⟩ rfl (xs := x3 ++ [1]) hgrow (by rw [ints_snoc]; exact hown) (own_or hat)); have f3 := VY.out.f 3; have d3 : w3.cell? ⟨C, 3, none⟩ = some (.slice A3 n3 c3) := VY.out.c 3; clear hown hgrow hat hlt)
      go_meet
      exact Lib.hid ⟨_, _, _, _, _, _, _, _, _, _, _, _, _, _, _, _, _, _, _, _, _, (VY.out.set 3 _).mw, PLs.out, by omega, by omega, by omega⟩
    · go_wp2_with fail
      go_meet
      exact Lib.hid ⟨_, _, _, _, _, _, _, _, _, _, _, _, _, _, _, _, _, _, _, _, _, (V0.out.set 5 _).mw, PLs.out, by omega, by omega, by omega⟩
    · obtain ⟨m, hm, hM3⟩ := mod1_any q1 5 (by omega)
      have HM3 := Lib.hid hM3
      obtain ⟨M, rfl⟩ := Int.eq_ofNat_of_zero_le hm.1
      have hM5 : M ≤ 4 := by omega
      clear hM3 hm
      go_wp2_with fail
      clear d0 d1 d2 d3 d4 d5 f0 f1 f2 f3 f4 f5 z0 z1 z2
      go_loopw [6] (fun i wr => ∃ k : Nat, k ≤ M ∧ i = .int .i64 (k : Int) ∧ ∃ (B3 B4 : Option Addr) (m3 m4 e3 e4 : Nat) (y3 y4 : List Int), (0 < m3 ∧ m3 ≤ n3 + k) ∧ (0 < m4 ∧ m4 ≤ n4 + k) ∧ Hid (BW w C B E #[.int .i64 q0, .int .i64 q1, .int .i64 q2] [.slice A0 n0 c0, .slice A1 n1 c1, .slice A2 n2 c2, Value.slice B3 m3 e3, Value.slice B4 m4 e4, .int .i64 ep] A0 n0 c0 l0 [⟨A1, n1, c1, x1⟩, ⟨A2, n2, c2, x2⟩, ⟨B3, m3, e3, y3⟩, ⟨B4, m4, e4, y4⟩] wr)) (fun i _ => M + 1 - (intOf i).toNat)
      case atStart => exact ⟨0, Nat.zero_le _, rfl, _, _, _, _, _, _, _, _, by omega, by omega, V0⟩
      case round =>
        obtain ⟨k, hk, rfl, B3, B4, m3, m4, e3, e4, y3, y4, hm3, hm4, VV⟩ := hrel
        obtain ⟨wo, rfl⟩ : ∃ wo : World, wo = wr := ⟨_, rfl⟩
        clear V0
        have z1 : wo.cell? ⟨E, 1, none⟩ = some (.int .i64 q1) := (blk_cell VV.out.qb 1).trans rfl
        go_wp2_with fail
        ((with_reducible refine (HM3.out _).mono ?_); rintro e w' ⟨rfl, rfl⟩)
        obtain ⟨wp, rfl⟩ : ∃ wp : World, wp = wo := ⟨_, rfl⟩
        by_cases hlt : k < M
        · have hb : decide (k < M) = true := by simpa using hlt
          have hkN := hlt
          clear hlt
          have d3 : wp.cell? ⟨C, 3, none⟩ = some (.slice B3 m3 e3) := VV.out.c 3
          go_upto_region 22 with (at_builtin; refine wpList_append_lies _ rfl _ _ _ rfl w.heap.size 3 j0 _ 1 8 Try.underlying22 GI.out GZ0.out GZ1.out GZ2.out rfl (by decide) (.slice B3 m3 e3) m3 (ints y3) rfl (by exact (VV.out.mw.rows.own ⟨B3, m3, e3, y3⟩ (by simp)).alloc _) ⟨_, 0, none⟩ 1 1 [.int .i64 1] rfl rfl (by exact World.news_of_block (heap_alloc_new _ _)) (by simp [Value.oneCell']) (by omega) (by unfold maxLen; omega) (by omega) (by have := VV.out.mw.since.size; simp; omega) _ rfl ?_; intro ga capa w3a hown hgrow hat hlt; have VYa := Lib.hid ((VV.out.quiet ((Keep.refl _ wp).alloc' _)).growi 2 ⟨B3, m3, e3, y3⟩ rfl (xs := y3 ++ [1]) hgrow (by rw [ints_snoc]; exact hown) (own_or hat)); have f3 := VYa.out.f 3; have d3 : w3a.cell? ⟨C, 3, none⟩ = some (.slice B3 m3 e3) := VYa.out.c 3; clear hown hgrow hat hlt)
          have VZ : Hid (BW w C B E #[.int .i64 q0, .int .i64 q1, .int .i64 q2] [.slice A0 n0 c0, .slice A1 n1 c1, .slice A2 n2 c2, Value.slice (some ⟨ga, 0, none⟩) (m3 + 1) capa, Value.slice B4 m4 e4, .int .i64 ep] A0 n0 c0 l0 [⟨A1, n1, c1, x1⟩, ⟨A2, n2, c2, x2⟩, ⟨some ⟨ga, 0, none⟩, m3 + 1, capa, y3 ++ [1]⟩, ⟨B4, m4, e4, y4⟩] (w3a.setCell ⟨C, 3, none⟩ (.slice (some ⟨ga, 0, none⟩) (m3 + 1) capa))) := Lib.hid (VYa.out.set 3 _)
          obtain ⟨wz, hwz⟩ : ∃ wz, w3a.setCell ⟨C, 3, none⟩ (.slice (some ⟨ga, 0, none⟩) (m3 + 1) capa) = wz := ⟨_, rfl⟩
          rw [hwz] at VZ
          rw [hwz]
          clear hwz d3 f3 VYa VV
          have d4 : wz.cell? ⟨C, 4, none⟩ = some (.slice B4 m4 e4) := VZ.out.c 4
          go_wp2_with (at_builtin; refine wpList_append_lies _ rfl _ _ _ rfl w.heap.size 3 j0 _ 1 8 Try.underlying22 GI.out GZ0.out GZ1.out GZ2.out rfl (by decide) (.slice B4 m4 e4) m4 (ints y4) rfl (by exact (VZ.out.mw.rows.own ⟨B4, m4, e4, y4⟩ (by simp)).alloc _) ⟨_, 0, none⟩ 1 1 [.int .i64 1] rfl rfl (by exact World.news_of_block (heap_alloc_new _ _)) (by simp [Value.oneCell']) (by omega) (by unfold maxLen; omega) (by omega) (by have := VZ.out.mw.since.size; simp; omega) _ rfl ?_; intro gb capb w3b hown hgrow hat hlt; have VYb := Lib.hid ((VZ.out.quiet ((Keep.refl _ wz).alloc' _)).growi 3 ⟨B4, m4, e4, y4⟩ rfl (xs := y4 ++ [1]) hgrow (by rw [ints_snoc]; exact hown) (own_or hat)); have f4 := VYb.out.f 4; have d4 : w3b.cell? ⟨C, 4, none⟩ = some (.slice B4 m4 e4) := VYb.out.c 4; clear hown hgrow hat hlt)
          exact ⟨⟨k + 1, by omega, by go_num, _, _, _, _, _, _, _, _, by omega, by omega, Lib.hid (VYb.out.set 4 _)⟩, by simp [intOf]; omega⟩
        · have hb : decide (k < M) = false := by simpa using hlt
          go_wp2_with fail
          go_meet
          exact Lib.hid ⟨_, _, _, B3, B4, _, _, _, _, _, _, _, _, _, _, _, _, _, _, _, _, VV.out.mw, PLs.out, by omega, by omega, by omega⟩
    · obtain ⟨m, hm, hM3⟩ := mod1_any q1 3 (by omega)
      have HM3 := Lib.hid hM3
      obtain ⟨M, hMM⟩ := Int.eq_ofNat_of_zero_le (show 0 ≤ 999 + m by omega)
      have hmk : ∀ W : World, (Instr.makeSlice 22 (.int .i64 (M : Int)) (.int .i64 (M : Int))).run Try.prog W = .ok (.slice (some ⟨W.heap.size, 0, none⟩) M M) (W.alloc (.cells (madeCells #[.int .i64 0] M) 3)) :=
        fun W => run_make_row' 22 3 (.int .i64 0) 8 Try.ints.ht Try.ints.info rfl .i64 .i64 M (by omega) (by omega) W
      clear hM3
      go_wp2_with fail
      ((with_reducible refine (HM3.out _).mono ?_); rintro e w' ⟨rfl, rfl⟩)
      clear HM3
      have hrow : (W2.alloc (.cells (madeCells #[.int .i64 0] M) 3)).ownsRow w.heap.size 3 1 (.slice (some ⟨W2.heap.size, 0, none⟩) M M) M (ints (List.replicate M 0)) := by
        have := own_new W2 3 (madeCells #[.int .i64 0] M) M w.heap.size (by simp [madeCells]) (by omega) V0.out.mw.since.size
        simp only [toList_madeCells_one] at this
        have e : ints (List.replicate M 0) = List.replicate M (.int .i64 0) := by simp [ints]
        rw [e]
        exact this
      have VY := Lib.hid (V0.out.growi 0 ⟨A1, n1, c1, x1⟩ rfl (W1 := W2.alloc (.cells (madeCells #[.int .i64 0] M) 3)) (xs := List.replicate M 0) ⟨rfl, rfl, rfl, by simp, fun k hk _ => Below.heap_alloc _ _ _ hk⟩ hrow (.inr rfl))
      have hMb : M ≤ 1001 := by omega
      have d1' : (W2.alloc (.cells (madeCells #[.int .i64 0] M) 3)).cell? ⟨C, 1, none⟩ = some (.slice A1 n1 c1) := VY.out.c 1
      have f1' := VY.out.f 1
      clear hrow
      go_wp2_with fail
      go_meet
      exact Lib.hid ⟨_, _, _, _, _, _, _, _, _, _, _, _, _, _, _, _, _, _, _, _, _, (VY.out.set 1 _).mw, PLs.out, by omega, by omega, by omega⟩
  case rest =>
    clear V0 d0 d1 d2 d3 d4 d5 f0 f1 f2 f3 f4 f5 z0 z1 z2 PLs
    obtain ⟨A0, A1, A2, A3, A4, n0, n1, n2, n3, n4, c0, c1, c2, c3, c4, l0, x1, x2, x3, x4, ep, hmw, hpl, hn, h3, h4⟩ := hcut.out
    have VE := Lib.hid hmw
    have PLs := Lib.hid hpl
    clear hcut hmw hpl
    have d0 : wc.cell? ⟨C, 0, none⟩ = some (.slice A0 n0 c0) := (blk_cell VE.out.blk 0).trans rfl
    have b0 : wc.cell? ⟨B, 0, none⟩ = some (.slice none 0 0) := (blk_cell VE.out.res 0).trans rfl
    have g0 := blk_free VE.out.res 0
    have d1 : wc.cell? ⟨C, 1, none⟩ = some (.slice A1 n1 c1) := (blk_cell VE.out.blk 1).trans rfl
    have b1 : wc.cell? ⟨B, 1, none⟩ = some (.slice none 0 0) := (blk_cell VE.out.res 1).trans rfl
    have g1 := blk_free VE.out.res 1
    have d2 : wc.cell? ⟨C, 2, none⟩ = some (.slice A2 n2 c2) := (blk_cell VE.out.blk 2).trans rfl
    have b2 : wc.cell? ⟨B, 2, none⟩ = some (.slice none 0 0) := (blk_cell VE.out.res 2).trans rfl
    have g2 := blk_free VE.out.res 2
    have d3 : wc.cell? ⟨C, 3, none⟩ = some (.slice A3 n3 c3) := (blk_cell VE.out.blk 3).trans rfl
    have b3 : wc.cell? ⟨B, 3, none⟩ = some (.slice none 0 0) := (blk_cell VE.out.res 3).trans rfl
    have g3 := blk_free VE.out.res 3
    have d4 : wc.cell? ⟨C, 4, none⟩ = some (.slice A4 n4 c4) := (blk_cell VE.out.blk 4).trans rfl
    have b4 : wc.cell? ⟨B, 4, none⟩ = some (.slice none 0 0) := (blk_cell VE.out.res 4).trans rfl
    have g4 := blk_free VE.out.res 4
    have d5 : wc.cell? ⟨C, 5, none⟩ = some (.int .i64 ep) := (blk_cell VE.out.blk 5).trans rfl
    have b5 : wc.cell? ⟨B, 5, none⟩ = some (.int .i64 0) := (blk_cell VE.out.res 5).trans rfl
    have g5 := blk_free VE.out.res 5
    go_wp2_with fail
    have o0 := VE.out.ins.1
    rw [valc_length] at o0
    have o1 := ints_len (VE.out.rows.own ⟨A1, n1, c1, x1⟩ (by simp))
    have o2 := ints_len (VE.out.rows.own ⟨A2, n2, c2, x2⟩ (by simp))
    have o3 := ints_len (VE.out.rows.own ⟨A3, n3, c3, x3⟩ (by simp))
    have o4 := ints_len (VE.out.rows.own ⟨A4, n4, c4, x4⟩ (by simp))
    simp only at o1 o2 o3 o4
    exact bent_ret (P := fun d' => (0 < d'.fuel.length ∧ 0 < d'.limit.length) ∧ Len d' (N + 1001)) VE.out LB.out ⟨by simp only; omega, by unfold Len; simp only; omega⟩ PLs.out (by omega) _ (by rfl)
end Go.Proofs.Ytbbeoeoengogpaa
