/- Open's loop over the records. -/
import Derived.Test.YtbmmcdnmbdoglaaJ3
namespace Go.Proofs.Ytbmmcdnmbdoglaa
open Go.RowKit
set_option linter.unusedVariables false
attribute [local go_sem] Oper.semAt_some

/-- 'append(own, x..)' as one step of a region that draws its order, within a fence. -/
theorem stepIn_append {F : Fence} {n : Nat} {P : Program} {ops : Array Oper} {o : Oper} {a : Act} {w : World} {K : Act → World → Prop} {Q : Exit → Act → World → Prop} {E : Prop}
    (t e : TypeId) (z : Value) (bytes base : Nat) (T : OneTy P t e z bytes) (s x : Operand) (hgd : o.guard = none)
    (ho : o.op = .call { callee := .builtin .append, args := #[s, x], argTypes := #[t, t] })
    (v : Value) (k : Nat) (xs : List Value) (hs : a.eval s = v) (hown : w.ownsRow base e 1 v k xs)
    (ad : Addr) (m c : Nat) (news : List Value) (hx : a.eval x = .slice (some ad) m c) (hn : news.length = m) (hc : ∀ j u, news[j]? = some u → w.cell? (ad.add j) = some u) (h1 : ∀ u ∈ news, u.oneCell' = true)
    (hbytes : (k + m) * bytes ≤ 140737488355328) (hb0 : 0 < bytes) (hbase : base ≤ w.heap.size)
    (h : ∀ v' w', w'.ownsRow base e 1 v' (k + m) (xs ++ news) → w.grownBy w' v.ownBlock → K (a.put o.dst v') w') :
    if Region.wanted o (yielded ops a.tmps) = true then Oper.wpIn F n P o a w K Q else E := by
  obtain ⟨i, hi, hz0, hz1, hz2⟩ := info_parts T.info
  have hlen : k + m ≤ 140737488355328 := Nat.le_trans (Nat.le_mul_of_pos_right _ hb0) hbytes
  have hw : Region.wanted o (yielded ops a.tmps) = true := by simp [Region.wanted, hgd]
  rw [if_pos hw]
  obtain ⟨v', w', hrun, r1, r2, r3⟩ := run_append_own (P := P) w base t o.type e i z 1 bytes T.ht hi hz0 hz1 hz2 T.hz (by omega) v k xs hown ad m c news (by rw [hn, Nat.mul_one]) hc h1 (by unfold maxLen; omega) hbytes hbase
  unfold Oper.wpIn
  refine ⟨?_, ?_⟩
  · simp [Oper.about, ho, resolve, Target.leads, Sem.run_pure]
  · rw [Oper.semAt_plain F _ _ (by rw [ho]; intro c hc'; cases hc')]
    simp [execOp, ho, resolve, invoke, builtin, hs, hx, hrun, Result.andThen]
    exact h v' w' r1 r2

def recs (pre : List (Bytes × Bool)) : List Bytes := pre.map fun x => clip x.1
def bytesOf : List Bytes → Nat
  | [] => 0
  | r :: l => r.length + 16 + bytesOf l
theorem bytesOf_append (l m : List Bytes) : bytesOf (l ++ m) = bytesOf l + bytesOf m := by
  induction l with
  | nil => simp [bytesOf]
  | cons r l ih => simp only [List.cons_append, bytesOf, ih]; omega
def strs (l : List Bytes) : List Value := l.map fun r => .string (sb r)
theorem recs_snoc (pre : List (Bytes × Bool)) (x : Bytes × Bool) : recs (pre ++ [x]) = recs pre ++ [clip x.1] := by simp [recs]
theorem recs_length (pre : List (Bytes × Bool)) : (recs pre).length = pre.length := by simp [recs]
theorem recs_bytes (pre : List (Bytes × Bool)) : bytesOf (recs pre) ≤ pre.length * 16777232 := by
  induction pre with
  | nil => simp [recs, bytesOf]
  | cons x pre ih =>
    have h1 := clip_len x.1
    simp only [recs, List.map_cons, bytesOf, List.length_cons] at ih ⊢
    omega

def OpenI (W0 : World) (jb M rp stop : Nat) (pre : List (Bytes × Bool)) (W : World) : Prop :=
  W.heap[jb]? = some (.cells #[.pointer (some ⟨rp, 0, none⟩), .int .i64 ((recs pre).length : Nat), .int .i64 (bytesOf (recs pre) : Nat), .int .i64 (stop : Int), .bool false] 52 (0, 0)) ∧
  W.heap[jb + 1]? = some (.cells #[.pointer (some ⟨jb, 0, none⟩)] 27 (0, 0)) ∧
  (∃ v, W.heap[jb + 1 + 1]? = some (.cells #[v] 22 (0, 0)) ∧ W.ownsRow M 9 1 v (recs pre).length (strs (recs pre))) ∧
  Keep (fun k => k = jb ∨ k = jb + 1 + 1 ∨ M ≤ k) W0 W ∧ ∀ x ∈ pre, x.2 = true
def OpenX (W0 : World) (n0 jb M : Nat) (c : Code) (pre : List (Bytes × Bool)) (W : World) : Prop :=
  c = .ret ∧ (∃ x ∈ pre, x.2 = false) ∧ Keep (fun k => k = jb ∨ k = jb + 1 + 1 ∨ M ≤ k ∨ n0 ≤ k ∧ k < n0 + 3) W0 W ∧
  W.heap[n0]? = some (.cells #[.pointer none] 27 (0, 0)) ∧ W.heap[n0 + 1]? = some (.cells #[.slice none 0 0] 22 (0, 0)) ∧ W.heap[n0 + 1 + 1]? = some (.cells #[.int .i64 11] 28 (0, 0))

theorem blk_grown {W W' : World} {row : Option Nat} {b : Nat} {o : Obj} (h : W.heap[b]? = some o) (hg : W.grownBy W' row) (hr : row ≠ some b) : W'.heap[b]? = some o :=
  (hg.block b (blk_lt h) (fun e => hr e.symm)).trans h
theorem alloc_old' {w : World} {b : Nat} {o o' : Obj} (h : w.heap[b]? = some o) : (w.alloc o').heap[b]? = some o := (Below.heap_alloc _ _ _ (blk_lt h)).trans h
theorem own_low {w : World} {base : Nat} {e : TypeId} {size n k : Nat} {v : Value} {xs : List Value} (h : w.ownsRow base e size v n xs) (hk : v.ownBlock = some k) : base ≤ k := by
  rcases h.2 with ⟨rfl, _⟩ | ⟨g, cap, cur, rfl, hb, _⟩
  · simp [Value.ownBlock] at hk
  · have : g = k := by simpa [Value.ownBlock] using hk
    omega
theorem openI_own (W0 : World) (jb M rp stop : Nat) (hM : jb + 1 + 1 < M) : OwnFrom M (OpenI W0 jb M rp stop) := by
  rintro s W W' row ⟨h1, h2, ⟨v, h3, h4⟩, h5, h6⟩ hg hr
  have hne : ∀ b, b < M → row ≠ some b := fun b hb e => by have := (hr b e).1; omega
  refine ⟨blk_grown h1 hg (hne _ (by omega)), blk_grown h2 hg (hne _ (by omega)), ⟨v, blk_grown h3 hg (hne _ hM), h4.kept hg ?_⟩, h5.grown hg (fun k e => .inl (.inr (.inr (hr k e).1))), h6⟩
  rcases h4.2 with ⟨rfl, _⟩ | ⟨g, cap, cur, rfl, _, hgb, _⟩
  · exact .inl rfl
  · refine .inr fun e' => ?_
    obtain ⟨o, ho, hoc⟩ := (hr g (by rw [← e']; rfl)).2
    rw [hgb] at ho
    rw [← Option.some.inj ho] at hoc
    cases hoc
theorem openX_own (W0 : World) (n0 jb M : Nat) (hM : n0 + 3 ≤ M) (c : Code) : OwnFrom M (OpenX W0 n0 jb M c) := by
  rintro s W W' row ⟨h0, h1, h2, h3, h4, h5⟩ hg hr
  have hne : ∀ b, b < M → row ≠ some b := fun b hb e => by have := (hr b e).1; omega
  exact ⟨h0, h1, h2.grown hg (fun k e => .inl (.inr (.inr (.inl (hr k e).1)))), blk_grown h3 hg (hne _ (by omega)), blk_grown h4 hg (hne _ (by omega)), blk_grown h5 hg (hne _ (by omega))⟩

/-- The body's way out at a record of the wrong form. -/
theorem open_body_bad {W0 W : World} {n0 jb M : Nat} (hR0 : Res3 n0 W0) (h5 : Keep (fun k => k = jb ∨ k = jb + 1 + 1 ∨ M ≤ k) W0 W) (hn : n0 + 3 ≤ jb) (hM : jb + 1 + 1 < M) (pre : List (Bytes × Bool)) (x1 : Bytes) :
    KeepsOthers W (((W.setCell ⟨n0, 0, none⟩ (.pointer none)).setCell ⟨n0 + 1, 0, none⟩ (.slice none 0 0)).setCell ⟨n0 + 1 + 1, 0, none⟩ (.int .i64 11)) ∧
    OpenX W0 n0 jb M .ret (pre ++ [(x1, false)]) (((W.setCell ⟨n0, 0, none⟩ (.pointer none)).setCell ⟨n0 + 1, 0, none⟩ (.slice none 0 0)).setCell ⟨n0 + 1 + 1, 0, none⟩ (.int .i64 11)) := by
  have hr : Res3 n0 W := hR0.keep h5 (by omega) (by omega) (by omega)
  refine ⟨((KeepsOthers.setCell _ _ _).trans (KeepsOthers.setCell _ _ _)).trans (KeepsOthers.setCell _ _ _), rfl, ⟨(x1, false), by simp, rfl⟩, ?_, ?_, ?_, ?_⟩
  · refine (((Keep.mono h5 (fun k hk => ?_)).setCell (.inl ?_) _).setCell (.inl ?_) _).setCell (.inl ?_) _
    · rcases hk with hk | hk | hk
      · exact .inl hk
      · exact .inr (.inl hk)
      · exact .inr (.inr (.inl hk))
    · exact .inr (.inr (.inr ⟨Nat.le_refl _, Nat.lt_add_of_pos_right (by omega)⟩))
    · exact .inr (.inr (.inr ⟨Nat.le_succ _, by show n0 + 1 < n0 + 3; omega⟩))
    · exact .inr (.inr (.inr ⟨by show n0 ≤ n0 + 1 + 1; omega, by show n0 + 1 + 1 < n0 + 3; omega⟩))
  · rw [Below.heap_setCell _ _ _ _ (by show n0 ≠ n0 + 1 + 1; omega), Below.heap_setCell _ _ _ _ (by show n0 ≠ n0 + 1; omega)]
    exact blk_set hr.1 0 _
  · rw [Below.heap_setCell _ _ _ _ (by show n0 + 1 ≠ n0 + 1 + 1; omega)]
    exact blk_set ((Below.heap_setCell _ _ _ _ (by show n0 + 1 ≠ n0; omega)).trans hr.2.1) 0 _
  · exact blk_set ((Below.heap_setCell _ _ _ _ (by show n0 + 1 + 1 ≠ n0 + 1; omega)).trans ((Below.heap_setCell _ _ _ _ (by show n0 + 1 + 1 ≠ n0; omega)).trans hr.2.2)) 0 _
theorem new_one (s : ByteArray) (w1 : World) (j : Nat) (u : Value) (hu : [Value.string s][j]? = some u) : (w1.alloc (.cells #[.string s] 9)).cell? ((⟨w1.heap.size, 0, none⟩ : Addr).add j) = some u := by
  cases j with
  | zero =>
    rw [Addr.add_lit, blk_cell (heap_alloc_new _ _)]
    exact hu
  | succ j => simp at hu
section
variable {W0 W : World} {jb rp stop : Nat} {pre : List (Bytes × Bool)} {v : Value} {x1 : Bytes}
  (h1 : W.heap[jb]? = some (.cells #[.pointer (some ⟨rp, 0, none⟩), .int .i64 ((recs pre).length : Nat), .int .i64 (bytesOf (recs pre) : Nat), .int .i64 (stop : Int), .bool false] 52 (0, 0)))
  (h2 : W.heap[jb + 1]? = some (.cells #[.pointer (some ⟨jb, 0, none⟩)] 27 (0, 0)))
  (h3 : W.heap[jb + 1 + 1]? = some (.cells #[v] 22 (0, 0))) (h4 : W.ownsRow (jb + 5) 9 1 v (recs pre).length (strs (recs pre)))
  (h5 : Keep (fun k => k = jb ∨ k = jb + 1 + 1 ∨ jb + 5 ≤ k) W0 W) (hsz : W0.heap.size = jb + 5)
include h3 h4 h5 hsz
theorem open_body_mid (w1 : World) (hb : Below W.drew.heap.size W.drew w1) :
    w1.cell? ⟨jb + 1 + 1, 0, none⟩ = some v ∧ (∀ o, (w1.alloc o).cell? ⟨jb + 1 + 1, 0, none⟩ = some v) ∧ jb + 5 ≤ w1.heap.size ∧ w1.ownsRow (jb + 5) 9 1 v (recs pre).length (strs (recs pre)) := by
  have hk : Keep (fun _ => False) W w1 := ⟨hb.os, hb.tape, hb.output, hb.size, fun i hi _ => hb.block i hi⟩
  have hq : w1.heap[jb + 1 + 1]? = _ := (hk.block _ (blk_lt h3) id).trans h3
  refine ⟨by rw [blk_cell hq]; rfl, fun o => by rw [blk_cell (alloc_old' hq)]; rfl, ?_, hk.own h4 (fun _ _ => id)⟩
  have := h5.size; have := hk.size; omega
include h1 h2
set_option linter.unusedSectionVars false
theorem open_body_app (h6 : ∀ x ∈ pre, x.2 = true) (hlen : pre.length < 20000000) (w1 : World) (v' : Value) (w' : World) (hb : Below W.drew.heap.size W.drew w1)
    (ho : w'.ownsRow (jb + 5) 9 1 v' ((recs pre).length + 1) (strs (recs pre) ++ [.string (sb (clip x1))])) (hg : (w1.alloc (.cells #[.string (sb (clip x1))] 9)).grownBy w' v.ownBlock) :
    w'.cell? ⟨jb + 1 + 1, 0, none⟩ = some v ∧ w'.frozen? ⟨jb + 1 + 1, 0, none⟩ = false ∧ w'.cell? ⟨jb + 1, 0, none⟩ = some (.pointer (some ⟨jb, 0, none⟩)) ∧
    w'.cell? ⟨jb, 1, none⟩ = some (.int .i64 ((recs pre).length : Nat)) ∧ w'.frozen? ⟨jb, 1, none⟩ = false ∧ w'.cell? ⟨jb, 2, none⟩ = some (.int .i64 (bytesOf (recs pre) : Nat)) ∧ w'.frozen? ⟨jb, 2, none⟩ = false ∧
    (let Wf := ((w'.setCell ⟨jb + 1 + 1, 0, none⟩ v').setCell ⟨jb, 1, none⟩ (.int .i64 (((recs pre).length : Nat) + 1))).setCell ⟨jb, 2, none⟩ (.int .i64 ((bytesOf (recs pre) : Nat) + (((sb (clip x1)).size : Nat) + 16)))
     KeepsOthers W Wf ∧ Keep (fun k => k = jb ∨ k = jb + 1 + 1 ∨ jb + 5 ≤ k) W Wf ∧ OpenI W0 jb (jb + 5) rp stop (pre ++ [(x1, true)]) Wf) := by
  have hk : Keep (fun _ => False) W w1 := ⟨hb.os, hb.tape, hb.output, hb.size, fun i hi _ => hb.block i hi⟩
  have hk1 : Keep (fun _ => False) W (w1.alloc (.cells #[.string (sb (clip x1))] 9)) := hk.alloc' _
  have hrow : ∀ k, v.ownBlock = some k → jb + 5 ≤ k := fun k hk => own_low h4 hk
  have hk2 : Keep (fun k => v.ownBlock = some k) W w' := (Keep.mono hk1 (fun _ => False.elim)).grown hg (fun k e => .inl e)
  have hne : ∀ b, b < jb + 5 → ¬ v.ownBlock = some b := fun b hb e => by have := hrow b e; omega
  have q1 : w'.heap[jb]? = _ := (hk2.block _ (blk_lt h1) (hne _ (by omega))).trans h1
  have q2 : w'.heap[jb + 1]? = _ := (hk2.block _ (blk_lt h2) (hne _ (by omega))).trans h2
  have q3 : w'.heap[jb + 1 + 1]? = _ := (hk2.block _ (blk_lt h3) (hne _ (by omega))).trans h3
  refine ⟨by rw [blk_cell q3]; rfl, blk_free q3 0, by rw [blk_cell q2]; rfl, by rw [blk_cell q1]; rfl, blk_free q1 1, by rw [blk_cell q1]; rfl, blk_free q1 2, ?_⟩
  have hkf : Keep (fun k => k = jb ∨ k = jb + 1 + 1 ∨ jb + 5 ≤ k) W (((w'.setCell ⟨jb + 1 + 1, 0, none⟩ v').setCell ⟨jb, 1, none⟩ (.int .i64 (((recs pre).length : Nat) + 1))).setCell ⟨jb, 2, none⟩ (.int .i64 ((bytesOf (recs pre) : Nat) + (((sb (clip x1)).size : Nat) + 16)))) :=
    (((Keep.mono hk2 (fun k e => .inr (.inr (hrow k e)))).setCell (.inl (.inr (.inl rfl))) _).setCell (.inl (.inl rfl)) _).setCell (.inl (.inl rfl)) _
  refine ⟨?_, hkf, ?_, ?_, ⟨v', ?_, ?_⟩, Keep.trans h5 hkf, ?_⟩
  · refine (((?_ : KeepsOthers W w').trans (KeepsOthers.setCell _ _ _)).trans (KeepsOthers.setCell _ _ _)).trans (KeepsOthers.setCell _ _ _)
    refine ⟨hk2.size, fun k o hk' hoc => ?_⟩
    refine (hk2.block k (blk_lt hk') (fun e => ?_)).trans hk'
    obtain ⟨cur, hc⟩ := own_type h4 e
    rw [hk'] at hc
    rw [Option.some.inj hc] at hoc
    cases hoc
  · have e1 := blk_set (blk_set ((Below.heap_setCell w' ⟨jb + 1 + 1, 0, none⟩ v' jb (by show jb ≠ jb + 1 + 1; omega)).trans q1) 1 (.int .i64 (((recs pre).length : Nat) + 1))) 2 (.int .i64 ((bytesOf (recs pre) : Nat) + (((sb (clip x1)).size : Nat) + 16)))
    rw [e1]
    have l1 : (recs (pre ++ [(x1, true)])).length = (recs pre).length + 1 := by rw [recs_snoc]; simp
    have l2 : bytesOf (recs (pre ++ [(x1, true)])) = bytesOf (recs pre) + ((sb (clip x1)).size + 16) := by rw [recs_snoc, bytesOf_append, sb_size]; simp [bytesOf]
    rw [l1, l2]
    rfl
  · exact (Below.heap_setCell _ _ _ _ (by show jb + 1 ≠ jb; omega)).trans ((Below.heap_setCell _ _ _ _ (by show jb + 1 ≠ jb; omega)).trans ((Below.heap_setCell _ _ _ _ (by show jb + 1 ≠ jb + 1 + 1; omega)).trans q2))
  · exact (Below.heap_setCell _ _ _ _ (by show jb + 1 + 1 ≠ jb; omega)).trans ((Below.heap_setCell _ _ _ _ (by show jb + 1 + 1 ≠ jb; omega)).trans (blk_set q3 0 v'))
  · have e : strs (recs (pre ++ [(x1, true)])) = strs (recs pre) ++ [.string (sb (clip x1))] := by rw [recs_snoc]; simp [strs]
    have l1 : (recs (pre ++ [(x1, true)])).length = (recs pre).length + 1 := by rw [recs_snoc]; simp
    rw [e, l1]
    have hke : ∀ (a : Addr) (u : Value) (w2 : World), a.block < jb + 5 → w2.ownsRow (jb + 5) 9 1 v' ((recs pre).length + 1) (strs (recs pre) ++ [.string (sb (clip x1))]) → (w2.setCell a u).ownsRow (jb + 5) 9 1 v' ((recs pre).length + 1) (strs (recs pre) ++ [.string (sb (clip x1))]) := fun a u w2 ha h =>
      ((Keep.refl (fun k => k = a.block) w2).setCell (.inl rfl) u).own h (fun b hb e => by have := own_low h hb; omega)
    exact hke _ _ _ (by show jb < _; omega) (hke _ _ _ (by show jb < _; omega) (hke _ _ _ (by show jb + 1 + 1 < _; omega) ho))
  · intro x hx
    rcases List.mem_append.1 hx with hx | hx
    · exact h6 x hx
    · rw [List.mem_singleton.1 hx]
end
end Go.Proofs.Ytbmmcdnmbdoglaa
