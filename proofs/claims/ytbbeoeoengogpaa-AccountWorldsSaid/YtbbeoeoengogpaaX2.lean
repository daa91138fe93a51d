/- facsimileref06.CopyWorld: the rows are new ones, apart from each other. -/
import Derived.Test.YtbbeoeoengogpaaX0
import Derived.Test.YtbbeoeoengogpaaRU
import Derived.Laws.OwnMore
import Derived.Maps.AppendAt
import Derived.Deep.Cut
namespace Go.Proofs.Ytbbeoeoengogpaa
open Go.RowKit Go.Lib
set_option linter.unusedVariables false
set_option linter.unusedSimpArgs false

theorem heap_alloc_new1 (w : World) (o o' : Obj) : ((w.alloc o).alloc o').heap[w.heap.size + 1]? = some o' := by simpa using heap_alloc_new (w.alloc o) o'
theorem own_empty0 (w : World) (e : TypeId) (size base : Nat) (hb : base ≤ w.heap.size) : (w.alloc (.cells #[] e)).ownsRow base e size (.slice (some ⟨w.heap.size, 0, none⟩) 0 0) 0 [] :=
  ⟨by simp, .inr ⟨w.heap.size, 0, #[], rfl, hb, heap_alloc_new _ _, Nat.le_refl _, by unfold maxLen; omega, by simp, by simp⟩⟩
theorem ints_one1 (xs : List Int) : ∀ u ∈ ints xs, u.oneCell' = true := by
  intro u hu
  simp only [ints, List.mem_map] at hu
  obtain ⟨_, _, rfl⟩ := hu
  rfl
theorem grown_alloc (w : World) (o : Obj) : w.grownBy (w.alloc o) none := ⟨rfl, rfl, rfl, by simp, fun k hk _ => Below.heap_alloc _ _ _ hk⟩
/-- append onto an empty row of whatever size of cells. -/
theorem step_append_onto {P : Program} {w : World} {ops : Array Oper} {o : Oper} {a : Act} {K : Act → World → Prop} {Q : Exit → Act → World → Prop} {E : Prop} (hgd : o.guard = none)
    (t e : TypeId) (i : TypeInfo) (z : Value) (size bytes base : Nat) (ht : P.underlying t = some (.slice e)) (hi : P.info? e = some i) (hz : i.zero = some z) (hsize : i.size = size) (hby : i.bytes = bytes) (hzs : z.cells.size = size) (hsz : 0 < size) (s x : Operand)
    (ho : o.op = .call { callee := .builtin .append, args := #[s, x], argTypes := #[t, t] })
    (A0 : Option Addr) (c0 : Nat) (hs : a.eval s = .slice A0 0 c0) (hown : w.ownsRow base e size (.slice A0 0 c0) 0 [])
    (A : Option Addr) (m c b2 : Nat) (news : List Value) (hx : a.eval x = .slice A m c) (hsrc : w.ownsRow b2 e size (.slice A m c) m news) (h1 : ∀ u ∈ news, u.oneCell' = true)
    (hbytes : m * bytes ≤ 140737488355328) (hm : m ≤ 140737488355328) (hbase : base ≤ w.heap.size)
    (h : ∀ A' c' w', w'.ownsRow base e size (.slice A' m c') m news → w.grownBy w' (Value.slice A0 0 c0).ownBlock → ((Value.slice A' m c').ownBlock = (Value.slice A0 0 c0).ownBlock ∨ (Value.slice A' m c').ownBlock = some w.heap.size) → K (a.put o.dst (.slice A' m c')) w') :
    if Region.wanted o (yielded ops a.tmps) = true then Oper.wp P o a w K Q else E := by
  have hw : Region.wanted o (yielded ops a.tmps) = true := by simp [Region.wanted, hgd]
  rw [if_pos hw]
  rcases hsrc.2 with ⟨h0, h2⟩ | ⟨g, cap, cur, h2, h3, h4, h5, h6, h7, h8⟩
  · injection h0 with e1 e2 e3
    subst e1 e2 e3
    obtain rfl : news = [] := List.eq_nil_of_length_eq_zero (by rw [hsrc.1]; simp)
    have hrun := run_append_owned_none (P := P) (w := w) base t o.type e i size ht hi _ 0 [] hown
    unfold Oper.wp
    simp [execOp, ho, resolve, invoke, builtin, hs, hx, hrun, Result.andThen]
    exact h A0 c0 w hown (World.grownBy.refl _ _) (.inl rfl)
  · injection h2 with e1 e2 e3
    subst e1 e3
    obtain ⟨v', w', hr, q2, q3, q4, q5⟩ := run_append_own_at (P := P) w base t o.type e i z size bytes ht hi hz hsize hby hzs hsz _ 0 [] hown ⟨g, 0, none⟩ m c news hsrc.1 (by
      intro j u hu
      have hj := (List.getElem?_eq_some_iff.1 hu).1
      rw [Addr.add_lit, Nat.zero_add, blk_cell h4, ← hu, ← h8]
      rw [hsrc.1] at hj
      rw [List.getElem?_take_of_lt hj]
      simp) h1 (by unfold maxLen; omega) (by simpa using hbytes) hbase
    rw [Nat.zero_add, List.nil_append] at q2
    obtain ⟨A', c', rfl⟩ := own_slice q2
    unfold Oper.wp execOp
    simp only [ho, resolve, invoke, builtin, Sem.run_bind, Sem.run_pure, Result.andThen_ok, List.map_toArray, List.map_cons, List.map_nil, hs, hx, hr]
    exact h A' c' w' q2 q3 q5

def COut (w : World) (d : WD) (e : Ending) (w' : World) : Prop := ∃ (A0 A1 A2 A3 A4 : Option Addr) (c0 c1 c2 c3 c4 : Nat), e = .returned (.agg #[.slice A0 d.ins.length c0, .slice A1 d.clocks.length c1, .slice A2 d.choices.length c2, .slice A3 d.fuel.length c3, .slice A4 d.limit.length c4, .int .i64 d.epoch]) ∧
  w'.ownsRow w.heap.size 75 3 (.slice A0 d.ins.length c0) d.ins.length (valc d.ins) ∧ RA w.heap.size [⟨A1, d.clocks.length, c1, d.clocks⟩, ⟨A2, d.choices.length, c2, d.choices⟩, ⟨A3, d.fuel.length, c3, d.fuel⟩, ⟨A4, d.limit.length, c4, d.limit⟩] w' ∧ Since w.heap.size w w'
/-- How far a row is: nothing, an empty row, the copy. -/
def PhI (b m : Bool) (T U : Value) (r : IR) (xs : List Int) : Prop := (b = false → r = ⟨none, 0, 0, []⟩) ∧ (b = true → m = false → T = .slice r.A r.n r.c ∧ r.n = 0 ∧ r.xs = []) ∧ (m = true → b = true ∧ U = .slice r.A r.n r.c ∧ r.n = xs.length ∧ r.xs = xs)
structure VR0 where
  A : Option Addr
  n : Nat
  c : Nat
  xs : List Val
def PhV (b m : Bool) (T U : Value) (r : VR0) (xs : List Val) : Prop := (b = false → r = ⟨none, 0, 0, []⟩) ∧ (b = true → m = false → T = .slice r.A r.n r.c ∧ r.n = 0 ∧ r.xs = []) ∧ (m = true → b = true ∧ U = .slice r.A r.n r.c ∧ r.n = xs.length ∧ r.xs = xs)
structure CD where
  (b0 b1 b2 b3 b4 : Bool)
  (m0 m1 m2 m3 m4 : Bool)
  (T0 T1 T2 T3 T4 : Value)
  (U0 U1 U2 U3 U4 : Value)
  r0 : VR0
  (r1 r2 r3 r4 : IR)
def CD.l (z : CD) : Array Bool := #[z.b0, true, true, z.m0, z.b1, true, true, z.m1, z.b2, true, true, z.m2, z.b3, true, true, z.m3, z.b4, true, true, z.m4, true, true, false, false]
def CD.a (z : CD) (d : WD) (s : WS) (C B : Nat) : Act := ⟨#[.agg #[.slice s.A0 d.ins.length s.c0, .slice s.A1 d.clocks.length s.c1, .slice s.A2 d.choices.length s.c2, .slice s.A3 d.fuel.length s.c3, .slice s.A4 d.limit.length s.c4, .int .i64 d.epoch], .pointer (some ⟨C, 0, none⟩), .pointer (some ⟨B, 0, none⟩), z.T0, .pointer (some ⟨C, 0, none⟩), .slice s.A0 d.ins.length s.c0, z.U0, z.T1, .pointer (some ⟨C, 1, none⟩), .slice s.A1 d.clocks.length s.c1, z.U1, z.T2, .pointer (some ⟨C, 2, none⟩), .slice s.A2 d.choices.length s.c2, z.U2, z.T3, .pointer (some ⟨C, 3, none⟩), .slice s.A3 d.fuel.length s.c3, z.U3, z.T4, .pointer (some ⟨C, 4, none⟩), .slice s.A4 d.limit.length s.c4, z.U4, .pointer (some ⟨C, 5, none⟩), .int .i64 d.epoch, undef], []⟩
structure CD.ok (z : CD) (w : World) (d : WD) (s : WS) (C B : Nat) (W : World) : Prop where
  mw : MW w C B [.slice s.A0 d.ins.length s.c0, .slice s.A1 d.clocks.length s.c1, .slice s.A2 d.choices.length s.c2, .slice s.A3 d.fuel.length s.c3, .slice s.A4 d.limit.length s.c4, .int .i64 d.epoch] z.r0.A z.r0.n z.r0.c z.r0.xs [z.r1, z.r2, z.r3, z.r4] W
  p0 : PhV z.b0 z.m0 z.T0 z.U0 z.r0 d.ins
  p1 : PhI z.b1 z.m1 z.T1 z.U1 z.r1 d.clocks
  p2 : PhI z.b2 z.m2 z.T2 z.U2 z.r2 d.choices
  p3 : PhI z.b3 z.m3 z.T3 z.U3 z.r3 d.fuel
  p4 : PhI z.b4 z.m4 z.T4 z.U4 z.r4 d.limit
theorem copy_ret {w W : World} {d : WD} {C B : Nat} {cs : List Value} {A0 A1 A2 A3 A4 : Option Addr} {c0 c1 c2 c3 c4 : Nat}
    (h : MW w C B cs A0 d.ins.length c0 d.ins [⟨A1, d.clocks.length, c1, d.clocks⟩, ⟨A2, d.choices.length, c2, d.choices⟩, ⟨A3, d.fuel.length, c3, d.fuel⟩, ⟨A4, d.limit.length, c4, d.limit⟩] W) (hB : w.heap.size ≤ B) (tmps : Array Value) (ht : tmps.getD 2 undef = .pointer (some ⟨B, 0, none⟩)) :
    bodyPost Try.prog Try.f37 (COut w d) Exit.ret { tmps := tmps, defers := [] }
      ((((((W.setCell ⟨B, 0, none⟩ (.slice A0 d.ins.length c0)).setCell ⟨B, 1, none⟩ (.slice A1 d.clocks.length c1)).setCell ⟨B, 2, none⟩ (.slice A2 d.choices.length c2)).setCell ⟨B, 3, none⟩ (.slice A3 d.fuel.length c3)).setCell ⟨B, 4, none⟩ (.slice A4 d.limit.length c4)).setCell ⟨B, 5, none⟩ (.int .i64 d.epoch)) := by
  have hb := blk_set (blk_set (blk_set (blk_set (blk_set (blk_set h.res 0 (.slice A0 d.ins.length c0)) 1 (.slice A1 d.clocks.length c1)) 2 (.slice A2 d.choices.length c2)) 3 (.slice A3 d.fuel.length c3)) 4 (.slice A4 d.limit.length c4)) 5 (.int .i64 d.epoch)
  have hkk : Keep (fun i => i = B) W ((((((W.setCell ⟨B, 0, none⟩ (.slice A0 d.ins.length c0)).setCell ⟨B, 1, none⟩ (.slice A1 d.clocks.length c1)).setCell ⟨B, 2, none⟩ (.slice A2 d.choices.length c2)).setCell ⟨B, 3, none⟩ (.slice A3 d.fuel.length c3)).setCell ⟨B, 4, none⟩ (.slice A4 d.limit.length c4)).setCell ⟨B, 5, none⟩ (.int .i64 d.epoch)) :=
    keep_set (keep_set (keep_set (keep_set (keep_set (keep_set (Keep.refl _ W) _ _) _ _) _ _) _ _) _ _) _ _
  exact bodyPost_ret (results_cell_row rfl _ _ B _ _ _ _ ht hb Try.underlying63 rfl (by kernel_rfl)) rfl
    ⟨A0, A1, A2, A3, A4, c0, c1, c2, c3, c4, rfl, hkk.own h.ins (fun b e hf => blk_own_ne h.res h.ins e (by decide) hf), h.rows.keep hkk (fun r hr b e hf => blk_own_ne h.res (h.rows.own r hr) e (by decide) hf), Keep.trans h.since (Keep.mono hkk (fun k e => by omega))⟩

set_option maxRecDepth 100000 in
set_option maxHeartbeats 8000000 in
theorem copy_any {w : World} {d : WD} {s : WS} (h : WR w d s) : Calls Try.prog 37 #[.agg #[.slice s.A0 d.ins.length s.c0, .slice s.A1 d.clocks.length s.c1, .slice s.A2 d.choices.length s.c2, .slice s.A3 d.fuel.length s.c3, .slice s.A4 d.limit.length s.c4, .int .i64 d.epoch]] w (COut w d) := by
  have H := Lib.hid h
  have HF := Lib.hid h.few
  clear h
  obtain ⟨i0, hi, hz0, hz1, hz2⟩ := info_parts (show (Try.prog.info? 75).map (fun i => (i.zero, i.size, i.bytes)) = some (some (.agg #[.int .i64 0, .int .i64 0, .string ⟨#[]⟩]), 3, 32) by kernel_rfl)
  obtain ⟨j0, gi, gz0, gz1, gz2⟩ := info_parts (show (Try.prog.info? 3).map (fun i => (i.zero, i.size, i.bytes)) = some (some (.int .i64 0), 1, 8) by kernel_rfl)
  have HI := Lib.hid hi
  have HZ0 := Lib.hid hz0
  have HZ1 := Lib.hid hz1
  have HZ2 := Lib.hid hz2
  have GI := Lib.hid gi
  have GZ0 := Lib.hid gz0
  have GZ1 := Lib.hid gz1
  have GZ2 := Lib.hid gz2
  clear hi hz0 hz1 hz2 gi gz0 gz1 gz2
  go_enter Try.func37, Try.ntmps37
  go_upto_region 1 with (fail)
  have V0 : Hid (MW w w.heap.size (w.heap.size + 1) [.slice s.A0 d.ins.length s.c0, .slice s.A1 d.clocks.length s.c1, .slice s.A2 d.choices.length s.c2, .slice s.A3 d.fuel.length s.c3, .slice s.A4 d.limit.length s.c4, .int .i64 d.epoch] none 0 0 [] [⟨none, 0, 0, []⟩, ⟨none, 0, 0, []⟩, ⟨none, 0, 0, []⟩, ⟨none, 0, 0, []⟩]
      ((w.alloc (.cells #[.slice s.A0 d.ins.length s.c0, .slice s.A1 d.clocks.length s.c1, .slice s.A2 d.choices.length s.c2, .slice s.A3 d.fuel.length s.c3, .slice s.A4 d.limit.length s.c4, .int .i64 d.epoch] 63)).alloc (.cells #[.slice none 0 0, .slice none 0 0, .slice none 0 0, .slice none 0 0, .slice none 0 0, .int .i64 0] 63))) :=
    Lib.hid ⟨alloc_old' (heap_alloc_new w _), World.ownsRow_nil _ _ _ _, RA.nils _ _ _ (by simp), Since.of (((Keep.refl (fun _ => False) w).alloc' _).alloc' _), Nat.le_refl _, heap_alloc_new1 _ _ _, by omega⟩
  obtain ⟨W0, hW⟩ : ∃ W0, ((w.alloc (.cells #[.slice s.A0 d.ins.length s.c0, .slice s.A1 d.clocks.length s.c1, .slice s.A2 d.choices.length s.c2, .slice s.A3 d.fuel.length s.c3, .slice s.A4 d.limit.length s.c4, .int .i64 d.epoch] 63)).alloc (.cells #[.slice none 0 0, .slice none 0 0, .slice none 0 0, .slice none 0 0, .slice none 0 0, .int .i64 0] 63)) = W0 := ⟨_, rfl⟩
  rw [hW] at V0
  rw [hW]
  clear hW
  obtain ⟨B, hB⟩ : ∃ B, w.heap.size + 1 = B := ⟨_, rfl⟩
  rw [hB] at V0 ⊢
  have LB := Lib.hid (show w.heap.size ≤ B by omega)
  clear hB
  obtain ⟨C, hC⟩ : ∃ C, w.heap.size = C := ⟨_, rfl⟩
  have V1 : Hid (MW w C B [.slice s.A0 d.ins.length s.c0, .slice s.A1 d.clocks.length s.c1, .slice s.A2 d.choices.length s.c2, .slice s.A3 d.fuel.length s.c3, .slice s.A4 d.limit.length s.c4, .int .i64 d.epoch] none 0 0 [] [⟨none, 0, 0, []⟩, ⟨none, 0, 0, []⟩, ⟨none, 0, 0, []⟩, ⟨none, 0, 0, []⟩] W0) := Lib.hid (hC ▸ V0.out)
  rw [hC]
  clear V0 hC
  refine wp_region_drewU (S := (fun w' => Hid (w'.heap[C]? = some (.cells #[.slice s.A0 d.ins.length s.c0, .slice s.A1 d.clocks.length s.c1, .slice s.A2 d.choices.length s.c2, .slice s.A3 d.fuel.length s.c3, .slice s.A4 d.limit.length s.c4, .int .i64 d.epoch] 63 (0, 0))))) (D := [23]) (by kernel_rfl) (by exact Lib.hid V1.out.blk) (fun hH => ?_)
  refine wpAnyU_take (i := 1) (v := ?_) rfl (by kernel_rfl) (by kernel_rfl) (by kernel_rfl) (by kernel_rfl) (fun _ _ _ h => h) (Or.inl ⟨by rfl, ?_⟩) hH ?_
  rotate_left
  · (intro w'' hSw; (try dsimp only at hSw); go_simp; try with_reducible rfl)
  change wpAnyU _ _ _ _ _ _ _ _ (Act.put _ (some 4) _) _
  try simp only [Act.put, List.setIfInBounds_toArray, List.set_cons_zero, List.set_cons_succ]
  refine wpAnyU_take (i := 2) (v := ?_) rfl (by kernel_rfl) (by kernel_rfl) (by kernel_rfl) (by kernel_rfl) (fun _ _ _ h => h) (Or.inl ⟨by rfl, ?_⟩) hH ?_
  rotate_left
  · (intro w'' hSw; have hc : w''.cell? ⟨C, 0, none⟩ = some (.slice s.A0 d.ins.length s.c0) := (blk_cell hSw.out 0).trans rfl; go_simp; try with_reducible rfl)
  change wpAnyU _ _ _ _ _ _ _ _ (Act.put _ (some 5) _) _
  try simp only [Act.put, List.setIfInBounds_toArray, List.set_cons_zero, List.set_cons_succ]
  refine wpAnyU_take (i := 5) (v := ?_) rfl (by kernel_rfl) (by kernel_rfl) (by kernel_rfl) (by kernel_rfl) (fun _ _ _ h => h) (Or.inl ⟨by rfl, ?_⟩) hH ?_
  rotate_left
  · (intro w'' hSw; (try dsimp only at hSw); go_simp; try with_reducible rfl)
  change wpAnyU _ _ _ _ _ _ _ _ (Act.put _ (some 8) _) _
  try simp only [Act.put, List.setIfInBounds_toArray, List.set_cons_zero, List.set_cons_succ]
  refine wpAnyU_take (i := 6) (v := ?_) rfl (by kernel_rfl) (by kernel_rfl) (by kernel_rfl) (by kernel_rfl) (fun _ _ _ h => h) (Or.inl ⟨by rfl, ?_⟩) hH ?_
  rotate_left
  · (intro w'' hSw; have hc : w''.cell? ⟨C, 1, none⟩ = some (.slice s.A1 d.clocks.length s.c1) := (blk_cell hSw.out 1).trans rfl; go_simp; try with_reducible rfl)
  change wpAnyU _ _ _ _ _ _ _ _ (Act.put _ (some 9) _) _
  try simp only [Act.put, List.setIfInBounds_toArray, List.set_cons_zero, List.set_cons_succ]
  refine wpAnyU_take (i := 9) (v := ?_) rfl (by kernel_rfl) (by kernel_rfl) (by kernel_rfl) (by kernel_rfl) (fun _ _ _ h => h) (Or.inl ⟨by rfl, ?_⟩) hH ?_
  rotate_left
  · (intro w'' hSw; (try dsimp only at hSw); go_simp; try with_reducible rfl)
  change wpAnyU _ _ _ _ _ _ _ _ (Act.put _ (some 12) _) _
  try simp only [Act.put, List.setIfInBounds_toArray, List.set_cons_zero, List.set_cons_succ]
  refine wpAnyU_take (i := 10) (v := ?_) rfl (by kernel_rfl) (by kernel_rfl) (by kernel_rfl) (by kernel_rfl) (fun _ _ _ h => h) (Or.inl ⟨by rfl, ?_⟩) hH ?_
  rotate_left
  · (intro w'' hSw; have hc : w''.cell? ⟨C, 2, none⟩ = some (.slice s.A2 d.choices.length s.c2) := (blk_cell hSw.out 2).trans rfl; go_simp; try with_reducible rfl)
  change wpAnyU _ _ _ _ _ _ _ _ (Act.put _ (some 13) _) _
  try simp only [Act.put, List.setIfInBounds_toArray, List.set_cons_zero, List.set_cons_succ]
  refine wpAnyU_take (i := 13) (v := ?_) rfl (by kernel_rfl) (by kernel_rfl) (by kernel_rfl) (by kernel_rfl) (fun _ _ _ h => h) (Or.inl ⟨by rfl, ?_⟩) hH ?_
  rotate_left
  · (intro w'' hSw; (try dsimp only at hSw); go_simp; try with_reducible rfl)
  change wpAnyU _ _ _ _ _ _ _ _ (Act.put _ (some 16) _) _
  try simp only [Act.put, List.setIfInBounds_toArray, List.set_cons_zero, List.set_cons_succ]
  refine wpAnyU_take (i := 14) (v := ?_) rfl (by kernel_rfl) (by kernel_rfl) (by kernel_rfl) (by kernel_rfl) (fun _ _ _ h => h) (Or.inl ⟨by rfl, ?_⟩) hH ?_
  rotate_left
  · (intro w'' hSw; have hc : w''.cell? ⟨C, 3, none⟩ = some (.slice s.A3 d.fuel.length s.c3) := (blk_cell hSw.out 3).trans rfl; go_simp; try with_reducible rfl)
  change wpAnyU _ _ _ _ _ _ _ _ (Act.put _ (some 17) _) _
  try simp only [Act.put, List.setIfInBounds_toArray, List.set_cons_zero, List.set_cons_succ]
  refine wpAnyU_take (i := 17) (v := ?_) rfl (by kernel_rfl) (by kernel_rfl) (by kernel_rfl) (by kernel_rfl) (fun _ _ _ h => h) (Or.inl ⟨by rfl, ?_⟩) hH ?_
  rotate_left
  · (intro w'' hSw; (try dsimp only at hSw); go_simp; try with_reducible rfl)
  change wpAnyU _ _ _ _ _ _ _ _ (Act.put _ (some 20) _) _
  try simp only [Act.put, List.setIfInBounds_toArray, List.set_cons_zero, List.set_cons_succ]
  refine wpAnyU_take (i := 18) (v := ?_) rfl (by kernel_rfl) (by kernel_rfl) (by kernel_rfl) (by kernel_rfl) (fun _ _ _ h => h) (Or.inl ⟨by rfl, ?_⟩) hH ?_
  rotate_left
  · (intro w'' hSw; have hc : w''.cell? ⟨C, 4, none⟩ = some (.slice s.A4 d.limit.length s.c4) := (blk_cell hSw.out 4).trans rfl; go_simp; try with_reducible rfl)
  change wpAnyU _ _ _ _ _ _ _ _ (Act.put _ (some 21) _) _
  try simp only [Act.put, List.setIfInBounds_toArray, List.set_cons_zero, List.set_cons_succ]
  refine wpAnyU_take (i := 20) (v := ?_) rfl (by kernel_rfl) (by kernel_rfl) (by kernel_rfl) (by kernel_rfl) (fun _ _ _ h => h) (Or.inl ⟨by rfl, ?_⟩) hH ?_
  rotate_left
  · (intro w'' hSw; (try dsimp only at hSw); go_simp; try with_reducible rfl)
  change wpAnyU _ _ _ _ _ _ _ _ (Act.put _ (some 23) _) _
  try simp only [Act.put, List.setIfInBounds_toArray, List.set_cons_zero, List.set_cons_succ]
  refine wpAnyU_take (i := 21) (v := ?_) rfl (by kernel_rfl) (by kernel_rfl) (by kernel_rfl) (by kernel_rfl) (fun _ _ _ h => h) (Or.inl ⟨by rfl, ?_⟩) hH ?_
  rotate_left
  · (intro w'' hSw; have hc : w''.cell? ⟨C, 5, none⟩ = some (.int .i64 d.epoch) := (blk_cell hSw.out 5).trans rfl; go_simp; try with_reducible rfl)
  change wpAnyU _ _ _ _ _ _ _ _ (Act.put _ (some 24) _) _
  try simp only [Act.put, List.setIfInBounds_toArray, List.set_cons_zero, List.set_cons_succ]
  refine wpAnyU_inv #[true, true, true, true, true, true, true, true, true, true, true, true, true, true, true, true, true, true, true, true, true, true, false, false] (fun l a W => ∃ z : CD, l = z.l ∧ a = z.a d s C B ∧ z.ok w d s C B W) ?hS ?hstep ?hne ?hend _ _ _ _ (by decide) ⟨⟨false, false, false, false, false, false, false, false, false, false, undef, undef, undef, undef, undef, undef, undef, undef, undef, undef, ⟨none, 0, 0, []⟩, ⟨none, 0, 0, []⟩, ⟨none, 0, 0, []⟩, ⟨none, 0, 0, []⟩, ⟨none, 0, 0, []⟩⟩, rfl, rfl, ?ok⟩
  case ok => exact ⟨V1.out.quiet (keep_draw _ _), ⟨fun _ => rfl, fun e => Bool.noConfusion e, fun e => Bool.noConfusion e⟩, ⟨fun _ => rfl, fun e => Bool.noConfusion e, fun e => Bool.noConfusion e⟩, ⟨fun _ => rfl, fun e => Bool.noConfusion e, fun e => Bool.noConfusion e⟩, ⟨fun _ => rfl, fun e => Bool.noConfusion e, fun e => Bool.noConfusion e⟩, ⟨fun _ => rfl, fun e => Bool.noConfusion e, fun e => Bool.noConfusion e⟩⟩
  case hS =>
    rintro l a W ⟨z, rfl, rfl, hz⟩
    exact Lib.hid hz.mw.blk
  case hstep =>
    rintro l a W i ⟨⟨b0, b1, b2, b3, b4, m0, m1, m2, m3, m4, T0, T1, T2, T3, T4, U0, U1, U2, U3, U4, r0, r1, r2, r3, r4⟩, rfl, rfl, hz⟩ hl hi
    have hun := (mem_ready.1 hi).1
    have hlt : i < 24 := by
      obtain ⟨_, o, ho, _⟩ := mem_ready.1 hi
      exact (Array.getElem?_eq_some_iff.1 ho).1
    rcases (show i = 0 ∨ i = 1 ∨ i = 2 ∨ i = 3 ∨ i = 4 ∨ i = 5 ∨ i = 6 ∨ i = 7 ∨ i = 8 ∨ i = 9 ∨ i = 10 ∨ i = 11 ∨ i = 12 ∨ i = 13 ∨ i = 14 ∨ i = 15 ∨ i = 16 ∨ i = 17 ∨ i = 18 ∨ i = 19 ∨ i = 20 ∨ i = 21 ∨ i = 22 ∨ i = 23 by omega) with rfl | rfl | rfl | rfl | rfl | rfl | rfl | rfl | rfl | rfl | rfl | rfl | rfl | rfl | rfl | rfl | rfl | rfl | rfl | rfl | rfl | rfl | rfl | rfl
    · obtain rfl : b0 = false := hun
      obtain rfl : m0 = false := by
        cases hm : m0 with
        | false => rfl
        | true => exact Bool.noConfusion (show false = true from (hz.p0.2.2 hm).1)
      have hrr := hz.p0.1 rfl
      simp only at hrr
      subst hrr
      refine wpOp_step rfl (fun Kn hK => ?_)
      have HK := Lib.hid hK
      clear hK hi hl
      simp only [CD.a, CD.l]
      go_simp
      refine HK.out _ _ ?_
      exact ⟨⟨true, b1, b2, b3, b4, false, m1, m2, m3, m4, .slice (some ⟨W.heap.size, 0, none⟩) 0 0, T1, T2, T3, T4, U0, U1, U2, U3, U4, ⟨some ⟨W.heap.size, 0, none⟩, 0, 0, []⟩, r1, r2, r3, r4⟩, rfl, rfl, ⟨hz.mw.grow0 (by simpa [Value.ownBlock] using grown_alloc W (.cells #[] 75)) (own_empty0 W 75 3 w.heap.size hz.mw.since.size), ⟨fun e => Bool.noConfusion e, fun _ _ => ⟨rfl, rfl, rfl⟩, fun e => Bool.noConfusion e⟩, hz.p1, hz.p2, hz.p3, hz.p4⟩⟩
    · exact absurd (show true = false from hun) (by decide)
    · exact absurd (show true = false from hun) (by decide)
    · obtain rfl : m0 = false := hun
      obtain rfl : b0 = true := ready_dep hi rfl 0 (by kernel_rfl)
      obtain ⟨A, n, c, xs⟩ := r0
      obtain ⟨hT, hn, hxs⟩ := hz.p0.2.1 rfl rfl
      simp only at hT hn hxs
      subst hn hxs hT
      obtain ⟨bs0, hs0⟩ := (H.out.since hz.mw.since).ins
      refine wpOp_step rfl (fun Kn hK => ?_)
      have HK := Lib.hid hK
      clear hK hi hl
      refine step_append_onto rfl 52 75 i0 _ 3 32 w.heap.size Try.underlying52 HI.out HZ0.out HZ1.out HZ2.out rfl (by decide) (.tmp 3) (.tmp 5) rfl A c rfl hz.mw.ins s.A0 d.ins.length s.c0 bs0 (valc d.ins) rfl hs0 (valc_one_cell _) (by have := HF.out; omega) (by have := HF.out; omega) hz.mw.since.size ?_
      intro A' c' w1 hown hgrow hob
      refine HK.out _ _ ?_
      exact ⟨⟨true, b1, b2, b3, b4, true, m1, m2, m3, m4, .slice A 0 c, T1, T2, T3, T4, Value.slice A' d.ins.length c', U1, U2, U3, U4, ⟨A', d.ins.length, c', d.ins⟩, r1, r2, r3, r4⟩, rfl, rfl, ⟨hz.mw.grow0 hgrow hown, ⟨fun e => Bool.noConfusion e, fun _ e => Bool.noConfusion e, fun _ => ⟨rfl, rfl, rfl, rfl⟩⟩, hz.p1, hz.p2, hz.p3, hz.p4⟩⟩
    · obtain rfl : b1 = false := hun
      obtain rfl : m1 = false := by
        cases hm : m1 with
        | false => rfl
        | true => exact Bool.noConfusion (show false = true from (hz.p1.2.2 hm).1)
      have hrr := hz.p1.1 rfl
      simp only at hrr
      subst hrr
      refine wpOp_step rfl (fun Kn hK => ?_)
      have HK := Lib.hid hK
      clear hK hi hl
      simp only [CD.a, CD.l]
      go_simp
      refine HK.out _ _ ?_
      exact ⟨⟨b0, true, b2, b3, b4, m0, false, m2, m3, m4, T0, .slice (some ⟨W.heap.size, 0, none⟩) 0 0, T2, T3, T4, U0, U1, U2, U3, U4, r0, ⟨some ⟨W.heap.size, 0, none⟩, 0, 0, []⟩, r2, r3, r4⟩, rfl, rfl, ⟨hz.mw.growi 0 ⟨none, 0, 0, []⟩ rfl (by simpa [Value.ownBlock] using grown_alloc W (.cells #[] 3)) (own_empty0 W 3 1 w.heap.size hz.mw.since.size) (.inr rfl), hz.p0, ⟨fun e => Bool.noConfusion e, fun _ _ => ⟨rfl, rfl, rfl⟩, fun e => Bool.noConfusion e⟩, hz.p2, hz.p3, hz.p4⟩⟩
    · exact absurd (show true = false from hun) (by decide)
    · exact absurd (show true = false from hun) (by decide)
    · obtain rfl : m1 = false := hun
      obtain rfl : b1 = true := ready_dep hi rfl 4 (by kernel_rfl)
      obtain ⟨A, n, c, xs⟩ := r1
      obtain ⟨hT, hn, hxs⟩ := hz.p1.2.1 rfl rfl
      simp only at hT hn hxs
      subst hn hxs hT
      obtain ⟨bs0, hs0⟩ := (H.out.since hz.mw.since).clocks
      refine wpOp_step rfl (fun Kn hK => ?_)
      have HK := Lib.hid hK
      clear hK hi hl
      refine step_append_onto rfl 22 3 j0 _ 1 8 w.heap.size Try.underlying22 GI.out GZ0.out GZ1.out GZ2.out rfl (by decide) (.tmp 7) (.tmp 9) rfl A c rfl (hz.mw.rows.own ⟨A, 0, c, []⟩ (by simp)) s.A1 d.clocks.length s.c1 bs0 (ints d.clocks) rfl hs0 (ints_one1 _) (by have := HF.out; omega) (by have := HF.out; omega) hz.mw.since.size ?_
      intro A' c' w1 hown hgrow hob
      refine HK.out _ _ ?_
      exact ⟨⟨b0, true, b2, b3, b4, m0, true, m2, m3, m4, T0, .slice A 0 c, T2, T3, T4, U0, Value.slice A' d.clocks.length c', U2, U3, U4, r0, ⟨A', d.clocks.length, c', d.clocks⟩, r2, r3, r4⟩, rfl, rfl, ⟨hz.mw.growi 0 ⟨A, 0, c, []⟩ rfl hgrow hown hob, hz.p0, ⟨fun e => Bool.noConfusion e, fun _ e => Bool.noConfusion e, fun _ => ⟨rfl, rfl, rfl, rfl⟩⟩, hz.p2, hz.p3, hz.p4⟩⟩
    · obtain rfl : b2 = false := hun
      obtain rfl : m2 = false := by
        cases hm : m2 with
        | false => rfl
        | true => exact Bool.noConfusion (show false = true from (hz.p2.2.2 hm).1)
      have hrr := hz.p2.1 rfl
      simp only at hrr
      subst hrr
      refine wpOp_step rfl (fun Kn hK => ?_)
      have HK := Lib.hid hK
      clear hK hi hl
      simp only [CD.a, CD.l]
      go_simp
      refine HK.out _ _ ?_
      exact ⟨⟨b0, b1, true, b3, b4, m0, m1, false, m3, m4, T0, T1, .slice (some ⟨W.heap.size, 0, none⟩) 0 0, T3, T4, U0, U1, U2, U3, U4, r0, r1, ⟨some ⟨W.heap.size, 0, none⟩, 0, 0, []⟩, r3, r4⟩, rfl, rfl, ⟨hz.mw.growi 1 ⟨none, 0, 0, []⟩ rfl (by simpa [Value.ownBlock] using grown_alloc W (.cells #[] 3)) (own_empty0 W 3 1 w.heap.size hz.mw.since.size) (.inr rfl), hz.p0, hz.p1, ⟨fun e => Bool.noConfusion e, fun _ _ => ⟨rfl, rfl, rfl⟩, fun e => Bool.noConfusion e⟩, hz.p3, hz.p4⟩⟩
    · exact absurd (show true = false from hun) (by decide)
    · exact absurd (show true = false from hun) (by decide)
    · obtain rfl : m2 = false := hun
      obtain rfl : b2 = true := ready_dep hi rfl 8 (by kernel_rfl)
      obtain ⟨A, n, c, xs⟩ := r2
      obtain ⟨hT, hn, hxs⟩ := hz.p2.2.1 rfl rfl
      simp only at hT hn hxs
      subst hn hxs hT
      obtain ⟨bs0, hs0⟩ := (H.out.since hz.mw.since).choices
      refine wpOp_step rfl (fun Kn hK => ?_)
      have HK := Lib.hid hK
      clear hK hi hl
      refine step_append_onto rfl 22 3 j0 _ 1 8 w.heap.size Try.underlying22 GI.out GZ0.out GZ1.out GZ2.out rfl (by decide) (.tmp 11) (.tmp 13) rfl A c rfl (hz.mw.rows.own ⟨A, 0, c, []⟩ (by simp)) s.A2 d.choices.length s.c2 bs0 (ints d.choices) rfl hs0 (ints_one1 _) (by have := HF.out; omega) (by have := HF.out; omega) hz.mw.since.size ?_
      intro A' c' w1 hown hgrow hob
      refine HK.out _ _ ?_
      exact ⟨⟨b0, b1, true, b3, b4, m0, m1, true, m3, m4, T0, T1, .slice A 0 c, T3, T4, U0, U1, Value.slice A' d.choices.length c', U3, U4, r0, r1, ⟨A', d.choices.length, c', d.choices⟩, r3, r4⟩, rfl, rfl, ⟨hz.mw.growi 1 ⟨A, 0, c, []⟩ rfl hgrow hown hob, hz.p0, hz.p1, ⟨fun e => Bool.noConfusion e, fun _ e => Bool.noConfusion e, fun _ => ⟨rfl, rfl, rfl, rfl⟩⟩, hz.p3, hz.p4⟩⟩
    · obtain rfl : b3 = false := hun
      obtain rfl : m3 = false := by
        cases hm : m3 with
        | false => rfl
        | true => exact Bool.noConfusion (show false = true from (hz.p3.2.2 hm).1)
      have hrr := hz.p3.1 rfl
      simp only at hrr
      subst hrr
      refine wpOp_step rfl (fun Kn hK => ?_)
      have HK := Lib.hid hK
      clear hK hi hl
      simp only [CD.a, CD.l]
      go_simp
      refine HK.out _ _ ?_
      exact ⟨⟨b0, b1, b2, true, b4, m0, m1, m2, false, m4, T0, T1, T2, .slice (some ⟨W.heap.size, 0, none⟩) 0 0, T4, U0, U1, U2, U3, U4, r0, r1, r2, ⟨some ⟨W.heap.size, 0, none⟩, 0, 0, []⟩, r4⟩, rfl, rfl, ⟨hz.mw.growi 2 ⟨none, 0, 0, []⟩ rfl (by simpa [Value.ownBlock] using grown_alloc W (.cells #[] 3)) (own_empty0 W 3 1 w.heap.size hz.mw.since.size) (.inr rfl), hz.p0, hz.p1, hz.p2, ⟨fun e => Bool.noConfusion e, fun _ _ => ⟨rfl, rfl, rfl⟩, fun e => Bool.noConfusion e⟩, hz.p4⟩⟩
    · exact absurd (show true = false from hun) (by decide)
    · exact absurd (show true = false from hun) (by decide)
    · obtain rfl : m3 = false := hun
      obtain rfl : b3 = true := ready_dep hi rfl 12 (by kernel_rfl)
      obtain ⟨A, n, c, xs⟩ := r3
      obtain ⟨hT, hn, hxs⟩ := hz.p3.2.1 rfl rfl
      simp only at hT hn hxs
      subst hn hxs hT
      obtain ⟨bs0, hs0⟩ := (H.out.since hz.mw.since).fuel
      refine wpOp_step rfl (fun Kn hK => ?_)
      have HK := Lib.hid hK
      clear hK hi hl
      refine step_append_onto rfl 22 3 j0 _ 1 8 w.heap.size Try.underlying22 GI.out GZ0.out GZ1.out GZ2.out rfl (by decide) (.tmp 15) (.tmp 17) rfl A c rfl (hz.mw.rows.own ⟨A, 0, c, []⟩ (by simp)) s.A3 d.fuel.length s.c3 bs0 (ints d.fuel) rfl hs0 (ints_one1 _) (by have := HF.out; omega) (by have := HF.out; omega) hz.mw.since.size ?_
      intro A' c' w1 hown hgrow hob
      refine HK.out _ _ ?_
      exact ⟨⟨b0, b1, b2, true, b4, m0, m1, m2, true, m4, T0, T1, T2, .slice A 0 c, T4, U0, U1, U2, Value.slice A' d.fuel.length c', U4, r0, r1, r2, ⟨A', d.fuel.length, c', d.fuel⟩, r4⟩, rfl, rfl, ⟨hz.mw.growi 2 ⟨A, 0, c, []⟩ rfl hgrow hown hob, hz.p0, hz.p1, hz.p2, ⟨fun e => Bool.noConfusion e, fun _ e => Bool.noConfusion e, fun _ => ⟨rfl, rfl, rfl, rfl⟩⟩, hz.p4⟩⟩
    · obtain rfl : b4 = false := hun
      obtain rfl : m4 = false := by
        cases hm : m4 with
        | false => rfl
        | true => exact Bool.noConfusion (show false = true from (hz.p4.2.2 hm).1)
      have hrr := hz.p4.1 rfl
      simp only at hrr
      subst hrr
      refine wpOp_step rfl (fun Kn hK => ?_)
      have HK := Lib.hid hK
      clear hK hi hl
      simp only [CD.a, CD.l]
      go_simp
      refine HK.out _ _ ?_
      exact ⟨⟨b0, b1, b2, b3, true, m0, m1, m2, m3, false, T0, T1, T2, T3, .slice (some ⟨W.heap.size, 0, none⟩) 0 0, U0, U1, U2, U3, U4, r0, r1, r2, r3, ⟨some ⟨W.heap.size, 0, none⟩, 0, 0, []⟩⟩, rfl, rfl, ⟨hz.mw.growi 3 ⟨none, 0, 0, []⟩ rfl (by simpa [Value.ownBlock] using grown_alloc W (.cells #[] 3)) (own_empty0 W 3 1 w.heap.size hz.mw.since.size) (.inr rfl), hz.p0, hz.p1, hz.p2, hz.p3, ⟨fun e => Bool.noConfusion e, fun _ _ => ⟨rfl, rfl, rfl⟩, fun e => Bool.noConfusion e⟩⟩⟩
    · exact absurd (show true = false from hun) (by decide)
    · exact absurd (show true = false from hun) (by decide)
    · obtain rfl : m4 = false := hun
      obtain rfl : b4 = true := ready_dep hi rfl 16 (by kernel_rfl)
      obtain ⟨A, n, c, xs⟩ := r4
      obtain ⟨hT, hn, hxs⟩ := hz.p4.2.1 rfl rfl
      simp only at hT hn hxs
      subst hn hxs hT
      obtain ⟨bs0, hs0⟩ := (H.out.since hz.mw.since).limit
      refine wpOp_step rfl (fun Kn hK => ?_)
      have HK := Lib.hid hK
      clear hK hi hl
      refine step_append_onto rfl 22 3 j0 _ 1 8 w.heap.size Try.underlying22 GI.out GZ0.out GZ1.out GZ2.out rfl (by decide) (.tmp 19) (.tmp 21) rfl A c rfl (hz.mw.rows.own ⟨A, 0, c, []⟩ (by simp)) s.A4 d.limit.length s.c4 bs0 (ints d.limit) rfl hs0 (ints_one1 _) (by have := HF.out; omega) (by have := HF.out; omega) hz.mw.since.size ?_
      intro A' c' w1 hown hgrow hob
      refine HK.out _ _ ?_
      exact ⟨⟨b0, b1, b2, b3, true, m0, m1, m2, m3, true, T0, T1, T2, T3, .slice A 0 c, U0, U1, U2, U3, Value.slice A' d.limit.length c', r0, r1, r2, r3, ⟨A', d.limit.length, c', d.limit⟩⟩, rfl, rfl, ⟨hz.mw.growi 3 ⟨A, 0, c, []⟩ rfl hgrow hown hob, hz.p0, hz.p1, hz.p2, hz.p3, ⟨fun e => Bool.noConfusion e, fun _ e => Bool.noConfusion e, fun _ => ⟨rfl, rfl, rfl, rfl⟩⟩⟩⟩
    · exact absurd (show true = false from hun) (by decide)
    · exact absurd (show true = false from hun) (by decide)
    · obtain rfl : m0 = true := ready_dep hi rfl 3 (by kernel_rfl)
      obtain rfl : m1 = true := ready_dep hi rfl 7 (by kernel_rfl)
      obtain rfl : m2 = true := ready_dep hi rfl 11 (by kernel_rfl)
      obtain rfl : m3 = true := ready_dep hi rfl 15 (by kernel_rfl)
      obtain rfl : m4 = true := ready_dep hi rfl 19 (by kernel_rfl)
      obtain rfl : b0 = true := (hz.p0.2.2 rfl).1
      obtain rfl : b1 = true := (hz.p1.2.2 rfl).1
      obtain rfl : b2 = true := (hz.p2.2.2 rfl).1
      obtain rfl : b3 = true := (hz.p3.2.2 rfl).1
      obtain rfl : b4 = true := (hz.p4.2.2 rfl).1
      exact absurd rfl hl
    · exact absurd (show false = true from ready_dep hi rfl 22 (by kernel_rfl)) (by decide)
  case hne =>
    rintro l a W ⟨⟨b0, b1, b2, b3, b4, m0, m1, m2, m3, m4, T0, T1, T2, T3, T4, U0, U1, U2, U3, U4, r0, r1, r2, r3, r4⟩, rfl, rfl, hz⟩ hl hr
    obtain rfl : b0 = true := by
      cases hb : b0 with
      | true => rfl
      | false => exact (ready_nil hr (i := 0) (by subst hb; rfl) rfl (by kernel_rfl)).elim
    obtain rfl : b1 = true := by
      cases hb : b1 with
      | true => rfl
      | false => exact (ready_nil hr (i := 4) (by subst hb; rfl) rfl (by kernel_rfl)).elim
    obtain rfl : b2 = true := by
      cases hb : b2 with
      | true => rfl
      | false => exact (ready_nil hr (i := 8) (by subst hb; rfl) rfl (by kernel_rfl)).elim
    obtain rfl : b3 = true := by
      cases hb : b3 with
      | true => rfl
      | false => exact (ready_nil hr (i := 12) (by subst hb; rfl) rfl (by kernel_rfl)).elim
    obtain rfl : b4 = true := by
      cases hb : b4 with
      | true => rfl
      | false => exact (ready_nil hr (i := 16) (by subst hb; rfl) rfl (by kernel_rfl)).elim
    obtain rfl : m0 = true := by
      cases hb : m0 with
      | true => rfl
      | false => exact (ready_nil hr (i := 3) (by subst hb; rfl) rfl (by kernel_rfl)).elim
    obtain rfl : m1 = true := by
      cases hb : m1 with
      | true => rfl
      | false => exact (ready_nil hr (i := 7) (by subst hb; rfl) rfl (by kernel_rfl)).elim
    obtain rfl : m2 = true := by
      cases hb : m2 with
      | true => rfl
      | false => exact (ready_nil hr (i := 11) (by subst hb; rfl) rfl (by kernel_rfl)).elim
    obtain rfl : m3 = true := by
      cases hb : m3 with
      | true => rfl
      | false => exact (ready_nil hr (i := 15) (by subst hb; rfl) rfl (by kernel_rfl)).elim
    obtain rfl : m4 = true := by
      cases hb : m4 with
      | true => rfl
      | false => exact (ready_nil hr (i := 19) (by subst hb; rfl) rfl (by kernel_rfl)).elim
    exact hl rfl
  case hend =>
    rintro k a W ⟨⟨b0, b1, b2, b3, b4, m0, m1, m2, m3, m4, T0, T1, T2, T3, T4, U0, U1, U2, U3, U4, r0, r1, r2, r3, r4⟩, hl, rfl, hz⟩
    obtain rfl : b0 = true := (show true = b0 from congrArg (fun l => Array.getD l 0 false) hl).symm
    obtain rfl : m0 = true := (show true = m0 from congrArg (fun l => Array.getD l 3 false) hl).symm
    obtain rfl : b1 = true := (show true = b1 from congrArg (fun l => Array.getD l 4 false) hl).symm
    obtain rfl : m1 = true := (show true = m1 from congrArg (fun l => Array.getD l 7 false) hl).symm
    obtain rfl : b2 = true := (show true = b2 from congrArg (fun l => Array.getD l 8 false) hl).symm
    obtain rfl : m2 = true := (show true = m2 from congrArg (fun l => Array.getD l 11 false) hl).symm
    obtain rfl : b3 = true := (show true = b3 from congrArg (fun l => Array.getD l 12 false) hl).symm
    obtain rfl : m3 = true := (show true = m3 from congrArg (fun l => Array.getD l 15 false) hl).symm
    obtain rfl : b4 = true := (show true = b4 from congrArg (fun l => Array.getD l 16 false) hl).symm
    obtain rfl : m4 = true := (show true = m4 from congrArg (fun l => Array.getD l 19 false) hl).symm
    obtain ⟨_, hU, hn, hx⟩ := hz.p0.2.2 rfl
    obtain ⟨A0, n0, c0, x0⟩ := r0
    simp only at hU hn hx
    subst hn hx hU
    obtain ⟨_, hU, hn, hx⟩ := hz.p1.2.2 rfl
    obtain ⟨A1, n1, c1, x1⟩ := r1
    simp only at hU hn hx
    subst hn hx hU
    obtain ⟨_, hU, hn, hx⟩ := hz.p2.2.2 rfl
    obtain ⟨A2, n2, c2, x2⟩ := r2
    simp only at hU hn hx
    subst hn hx hU
    obtain ⟨_, hU, hn, hx⟩ := hz.p3.2.2 rfl
    obtain ⟨A3, n3, c3, x3⟩ := r3
    simp only at hU hn hx
    subst hn hx hU
    obtain ⟨_, hU, hn, hx⟩ := hz.p4.2.2 rfl
    obtain ⟨A4, n4, c4, x4⟩ := r4
    simp only at hU hn hx
    subst hn hx hU
    have MV : MW w C B [.slice s.A0 d.ins.length s.c0, .slice s.A1 d.clocks.length s.c1, .slice s.A2 d.choices.length s.c2, .slice s.A3 d.fuel.length s.c3, .slice s.A4 d.limit.length s.c4, .int .i64 d.epoch] A0 d.ins.length c0 d.ins [⟨A1, d.clocks.length, c1, d.clocks⟩, ⟨A2, d.choices.length, c2, d.choices⟩, ⟨A3, d.fuel.length, c3, d.fuel⟩, ⟨A4, d.limit.length, c4, d.limit⟩] W := hz.mw
    have MVH := Lib.hid MV
    have hH := Lib.hid MV.blk
    have e2 : k + left #[true, true, true, true, true, true, true, true, true, true, true, true, true, true, true, true, true, true, true, true, true, true, false, false] = (k + 1) + 1 := rfl
    rw [e2]
    have g0 := blk_free MV.res 0
    have q0 : W.cell? ⟨B, 0, none⟩ = some (.slice none 0 0) := (blk_cell MV.res 0).trans rfl
    have g1 := blk_free MV.res 1
    have q1 : W.cell? ⟨B, 1, none⟩ = some (.slice none 0 0) := (blk_cell MV.res 1).trans rfl
    have g2 := blk_free MV.res 2
    have q2 : W.cell? ⟨B, 2, none⟩ = some (.slice none 0 0) := (blk_cell MV.res 2).trans rfl
    have g3 := blk_free MV.res 3
    have q3 : W.cell? ⟨B, 3, none⟩ = some (.slice none 0 0) := (blk_cell MV.res 3).trans rfl
    have g4 := blk_free MV.res 4
    have q4 : W.cell? ⟨B, 4, none⟩ = some (.slice none 0 0) := (blk_cell MV.res 4).trans rfl
    have g5 := blk_free MV.res 5
    have q5 : W.cell? ⟨B, 5, none⟩ = some (.int .i64 0) := (blk_cell MV.res 5).trans rfl
    clear hz hl e2 MV
    simp only [CD.a]
    refine wpAnyU_take (i := 22) (v := ?_) rfl (by kernel_rfl) (by kernel_rfl) (by kernel_rfl) (by kernel_rfl) (fun _ _ _ h => h) (Or.inl ⟨by rfl, ?_⟩) hH ?_
    rotate_left
    · (intro w'' hSw; (try dsimp only at hSw); go_simp; try with_reducible rfl)
    change wpAnyU _ _ _ _ _ _ _ _ (Act.put _ (some 25) _) _
    try simp only [Act.put, List.setIfInBounds_toArray, List.set_cons_zero, List.set_cons_succ]
    refine wpAnyU_ready (rs := [23]) (by kernel_rfl) (by simp) ?_
    refine AllReadyU.last rfl (by rfl) (fun Kn hKn => ?_) AllReadyU.nil
    go_simp
    refine hKn.out _ _ ?_
    clear hKn Kn
    try simp only [Act.put, List.setIfInBounds_toArray, List.set_cons_zero, List.set_cons_succ]
    refine wpAnyU_done (by kernel_rfl) ?_ _
    go_wp2_with fail
    exact copy_ret MVH.out LB.out _ rfl
end Go.Proofs.Ytbbeoeoengogpaa
