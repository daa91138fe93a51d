/- A world that is being made: its block, its rows, apart from each other. -/
import Derived.Test.YtbbeoeoengogpaaW5
import Derived.Laws.Rows
namespace Go.Proofs.Ytbbeoeoengogpaa
open Go.RowKit Go.Lib
set_option linter.unusedVariables false

/-- A row of ints. -/
structure IR where
  A : Option Addr
  n : Nat
  c : Nat
  xs : List Int
def IR.v (r : IR) : Value := .slice r.A r.n r.c
structure RA (m : Nat) (l : List IR) (W : World) : Prop where
  own : ∀ r ∈ l, W.ownsRow m 3 1 (.slice r.A r.n r.c) r.n (ints r.xs)
  apart : ∀ (i j : Nat) (ri rj : IR) (b : Nat), i ≠ j → l[i]? = some ri → l[j]? = some rj → (Value.slice ri.A ri.n ri.c).ownBlock = some b → (Value.slice rj.A rj.n rj.c).ownBlock ≠ some b
theorem RA.keep {m : Nat} {l : List IR} {W W' : World} {F : Nat → Prop} (h : RA m l W) (hk : Keep F W W') (hF : ∀ r ∈ l, ∀ b, (Value.slice r.A r.n r.c).ownBlock = some b → ¬ F b) : RA m l W' :=
  ⟨fun r hr => hk.own (h.own r hr) (hF r hr), h.apart⟩
theorem RA.nils (m : Nat) (l : List IR) (W : World) (h : ∀ r ∈ l, r = ⟨none, 0, 0, []⟩) : RA m l W :=
  ⟨fun r hr => by rw [h r hr]; exact World.ownsRow_nil _ _ _ _, fun i j ri rj b _ hi _ hb => by rw [h ri (List.mem_of_getElem? hi)] at hb; simp [Value.ownBlock] at hb⟩
theorem RA.grow {m : Nat} {l : List IR} {W W1 : World} (h : RA m l W) (i : Nat) (r : IR) (hi : l[i]? = some r) {A : Option Addr} {n c : Nat} {xs : List Int} (hg : W.grownBy W1 (Value.slice r.A r.n r.c).ownBlock)
    (ho : W1.ownsRow m 3 1 (.slice A n c) n (ints xs)) (hb : (Value.slice A n c).ownBlock = (Value.slice r.A r.n r.c).ownBlock ∨ (Value.slice A n c).ownBlock = some W.heap.size) : RA m (l.set i ⟨A, n, c, xs⟩) W1 := by
  have hlt : i < l.length := (List.getElem?_eq_some_iff.1 hi).1
  have hk : Keep (fun k => (Value.slice r.A r.n r.c).ownBlock = some k) W W1 := (Keep.refl _ W).grown hg (fun k e => .inl e)
  have other : ∀ j x, j ≠ i → (l.set i ⟨A, n, c, xs⟩)[j]? = some x → l[j]? = some x := fun j x hj hx => by rwa [List.getElem?_set_ne (Ne.symm hj)] at hx
  have self : ∀ x, (l.set i ⟨A, n, c, xs⟩)[i]? = some x → x = ⟨A, n, c, xs⟩ := fun x hx => by rw [List.getElem?_set_self hlt] at hx; exact (Option.some.inj hx).symm
  have far : ∀ j x b, j ≠ i → l[j]? = some x → (Value.slice x.A x.n x.c).ownBlock = some b → (Value.slice A n c).ownBlock ≠ some b := fun j x b hj hx hxb e => by
    rcases hb with hb | hb
    · rw [hb] at e
      exact h.apart j i x r b hj hx hi hxb e
    · rw [hb] at e
      have := own_lt (h.own x (List.mem_of_getElem? hx)) b hxb
      injection e with e
      omega
  refine ⟨fun x hx => ?_, fun a b' ra rb b hab ha hb2 he => ?_⟩
  · obtain ⟨j, hj⟩ := List.getElem?_of_mem hx
    by_cases hji : j = i
    · subst hji
      rw [self x hj]
      exact ho
    · have hx' := other j x hji hj
      exact hk.own (h.own x (List.mem_of_getElem? hx')) (fun b e hf => h.apart j i x r b hji hx' hi e hf)
  · by_cases hai : a = i
    · subst hai
      rw [self ra ha] at he
      have := other b' rb (Ne.symm hab) hb2
      intro e
      exact far b' rb b (Ne.symm hab) this e he
    · have ha' := other a ra hai ha
      by_cases hbi : b' = i
      · subst hbi
        rw [self rb hb2]
        exact far a ra b hai ha' he
      · exact h.apart a b' ra rb b hab ha' (other b' rb hbi hb2) he

/-- A world's block and its rows. -/
structure MW (w : World) (C B : Nat) (cs : List Value) (A0 : Option Addr) (n0 c0 : Nat) (l0 : List Val) (rs : List IR) (W : World) : Prop where
  blk : W.heap[C]? = some (.cells cs.toArray 63 (0, 0))
  ins : W.ownsRow w.heap.size 75 3 (.slice A0 n0 c0) n0 (valc l0)
  rows : RA w.heap.size rs W
  since : Since w.heap.size w W
  low : w.heap.size ≤ C
  res : W.heap[B]? = some (.cells #[.slice none 0 0, .slice none 0 0, .slice none 0 0, .slice none 0 0, .slice none 0 0, .int .i64 0] 63 (0, 0))
  ne : B ≠ C
section
variable {w W W1 : World} {C B : Nat} {cs : List Value} {A0 : Option Addr} {n0 c0 : Nat} {l0 : List Val} {rs : List IR}
theorem MW.keep {F : Nat → Prop} (h : MW w C B cs A0 n0 c0 l0 rs W) (hk : Keep F W W1) (hC : ¬ F C) (hB : ¬ F B) (hl : ∀ k, F k → w.heap.size ≤ k) (hF : ∀ k cur, F k → W.heap[k]? ≠ some (.cells cur 75 (0, 0)) ∧ W.heap[k]? ≠ some (.cells cur 3 (0, 0))) : MW w C B cs A0 n0 c0 l0 rs W1 :=
  ⟨(hk.block C (blk_lt h.blk) hC).trans h.blk, hk.own h.ins (fun b e hf => by obtain ⟨cur, hc⟩ := own_type h.ins e; exact (hF b cur hf).1 hc),
    h.rows.keep hk (fun r hr b e hf => by obtain ⟨cur, hc⟩ := own_type (h.rows.own r hr) e; exact (hF b cur hf).2 hc), Keep.trans h.since (Keep.mono hk hl), h.low, (hk.block B (blk_lt h.res) hB).trans h.res, h.ne⟩
theorem MW.quiet (h : MW w C B cs A0 n0 c0 l0 rs W) (hk : Keep (fun _ => False) W W1) : MW w C B cs A0 n0 c0 l0 rs W1 := h.keep hk id id (fun _ => False.elim) (fun _ _ => False.elim)
theorem MW.other {p : Nat} {cp : Array Value} {t : TypeId} (h : MW w C B cs A0 n0 c0 l0 rs W) (hp : W.heap[p]? = some (.cells cp t (0, 0))) (hl : w.heap.size ≤ p) (h1 : t ≠ 63) (h2 : t ≠ 75) (h3 : t ≠ 3) (hk : Keep (fun k => k = p) W W1) : MW w C B cs A0 n0 c0 l0 rs W1 :=
  h.keep hk (fun e => by subst e; have := h.blk; rw [hp] at this; injection this with this; injection this with _ h4; exact h1 h4) (fun e => by subst e; have := h.res; rw [hp] at this; injection this with this; injection this with _ h4; exact h1 h4) (fun k e => by omega)
    (fun k cur e => by subst e; rw [hp]; refine ⟨fun e => ?_, fun e => ?_⟩ <;> (injection e with e; injection e with _ h4; first | exact h2 h4 | exact h3 h4))
theorem MW.grow0 (h : MW w C B cs A0 n0 c0 l0 rs W) {A : Option Addr} {n c : Nat} {l : List Val} (hg : W.grownBy W1 (Value.slice A0 n0 c0).ownBlock) (ho : W1.ownsRow w.heap.size 75 3 (.slice A n c) n (valc l)) : MW w C B cs A n c l rs W1 := by
  have hk : Keep (fun k => (Value.slice A0 n0 c0).ownBlock = some k) W W1 := (Keep.refl _ W).grown hg (fun k e => .inl e)
  refine ⟨(hk.block C (blk_lt h.blk) (fun e => blk_own_ne h.blk h.ins e (by decide) rfl)).trans h.blk, ho, h.rows.keep hk (fun r hr b e hf => ?_), Keep.trans h.since (Keep.mono hk (fun k e => own_low h.ins e)), h.low, (hk.block B (blk_lt h.res) (fun e => blk_own_ne h.res h.ins e (by decide) rfl)).trans h.res, h.ne⟩
  obtain ⟨cur, hc⟩ := own_type (h.rows.own r hr) e
  exact blk_own_ne hc h.ins hf (by decide) rfl
theorem MW.growi (h : MW w C B cs A0 n0 c0 l0 rs W) (i : Nat) (r : IR) (hi : rs[i]? = some r) {A : Option Addr} {n c : Nat} {xs : List Int} (hg : W.grownBy W1 (Value.slice r.A r.n r.c).ownBlock)
    (ho : W1.ownsRow w.heap.size 3 1 (.slice A n c) n (ints xs)) (hb : (Value.slice A n c).ownBlock = (Value.slice r.A r.n r.c).ownBlock ∨ (Value.slice A n c).ownBlock = some W.heap.size) : MW w C B cs A0 n0 c0 l0 (rs.set i ⟨A, n, c, xs⟩) W1 := by
  have hr := h.rows.own r (List.mem_of_getElem? hi)
  have hk : Keep (fun k => (Value.slice r.A r.n r.c).ownBlock = some k) W W1 := (Keep.refl _ W).grown hg (fun k e => .inl e)
  refine ⟨(hk.block C (blk_lt h.blk) (fun e => blk_own_ne h.blk hr e (by decide) rfl)).trans h.blk, hk.own h.ins (fun b e hf => ?_), h.rows.grow i r hi hg ho hb, Keep.trans h.since (Keep.mono hk (fun k e => own_low hr e)), h.low, (hk.block B (blk_lt h.res) (fun e => blk_own_ne h.res hr e (by decide) rfl)).trans h.res, h.ne⟩
  obtain ⟨cur, hc⟩ := own_type h.ins e
  exact blk_own_ne hc hr hf (by decide) rfl
theorem MW.set (h : MW w C B cs A0 n0 c0 l0 rs W) (k : Nat) (v : Value) : MW w C B (cs.set k v) A0 n0 c0 l0 rs (W.setCell ⟨C, k, none⟩ v) := by
  have hk := keep_set (Keep.refl (fun i => i = C) W) k v
  have hb := blk_set h.blk k v
  rw [List.setIfInBounds_toArray] at hb
  refine ⟨hb, hk.own h.ins (fun b e hf => blk_own_ne h.blk h.ins e (by decide) hf), h.rows.keep hk (fun r hr b e hf => blk_own_ne h.blk (h.rows.own r hr) e (by decide) hf), Keep.trans h.since (Keep.mono hk (fun i e => by have := h.low; omega)), h.low, (hk.block B (blk_lt h.res) h.ne).trans h.res, h.ne⟩
/-- A store into a row of ints. -/
theorem MW.put (h : MW w C B cs A0 n0 c0 l0 rs W) (i : Nat) (r : IR) (hi : rs[i]? = some r) {g : Nat} (hA : r.A = some ⟨g, 0, none⟩) (j : Nat) (hj : j < r.n) (x : Int) :
    MW w C B cs A0 n0 c0 l0 (rs.set i ⟨r.A, r.n, r.c, r.xs.set j x⟩) (W.setCell ⟨g, j, none⟩ (.int .i64 x)) := by
  have hr := h.rows.own r (List.mem_of_getElem? hi)
  have hlen : (ints r.xs).length = r.n := by simpa using hr.1
  have hob : (Value.slice r.A r.n r.c).ownBlock = some g := by rw [hA]; rfl
  have hk : Keep (fun k => k = g) W (W.setCell ⟨g, j, none⟩ (.int .i64 x)) := keep_set (Keep.refl (fun i => i = g) W) j (.int .i64 x)
  have hst : (W.setCell ⟨g, j, none⟩ (.int .i64 x)).ownsRow w.heap.size 3 1 (.slice r.A r.n r.c) r.n (ints (r.xs.set j x)) := by
    obtain ⟨hl, h0 | ⟨g', cap, cur, h1, h2, h3, h4, h5, h6, h7⟩⟩ := hr
    · exact absurd h0.2 (by omega)
    · injection h1 with h1 _ h1c
      rw [hA] at h1
      injection h1 with h1
      injection h1 with h1
      subst h1
      refine ⟨by simp [ints]; simpa [ints] using hl, .inr ⟨g, cap, cur.setIfInBounds j (.int .i64 x), by rw [hA, h1c], h2, blk_set h3 j _, h4, h5, by simpa using h6, ?_⟩⟩
      rw [Array.toList_setIfInBounds, List.take_set, h7]
      simp [ints, List.map_set]
  refine ⟨(hk.block C (blk_lt h.blk) (fun e => blk_own_ne h.blk hr hob (by decide) e.symm)).trans h.blk, hk.own h.ins (fun b e hf => ?_), ⟨fun x' hx => ?_, fun a b' ra rb b hab ha hb2 he => ?_⟩, Keep.trans h.since (Keep.mono hk (fun k e => by have := own_low hr hob; omega)), h.low, (hk.block B (blk_lt h.res) (fun e => blk_own_ne h.res hr hob (by decide) e.symm)).trans h.res, h.ne⟩
  · obtain ⟨cur, hc⟩ := own_type h.ins e
    exact blk_own_ne hc hr hob (by decide) hf.symm
  · obtain ⟨a, ha⟩ := List.getElem?_of_mem hx
    by_cases hai : a = i
    · subst hai
      rw [List.getElem?_set_self (List.getElem?_eq_some_iff.1 hi).1] at ha
      obtain rfl := Option.some.inj ha
      exact hst
    · rw [List.getElem?_set_ne (Ne.symm hai)] at ha
      exact hk.own (h.rows.own x' (List.mem_of_getElem? ha)) (fun b e hf => h.rows.apart a i x' r b hai ha hi e (by rw [hob, hf]))
  · have same : ∀ (q : Nat) (rq : IR), (rs.set i ⟨r.A, r.n, r.c, r.xs.set j x⟩)[q]? = some rq → ∃ rq' : IR, rs[q]? = some rq' ∧ Value.slice rq'.A rq'.n rq'.c = Value.slice rq.A rq.n rq.c := fun q rq hq => by
      by_cases hqi : q = i
      · subst hqi
        rw [List.getElem?_set_self (List.getElem?_eq_some_iff.1 hi).1] at hq
        obtain rfl := Option.some.inj hq
        exact ⟨r, hi, rfl⟩
      · rw [List.getElem?_set_ne (Ne.symm hqi)] at hq
        exact ⟨rq, hq, rfl⟩
    obtain ⟨ra', ha', ea⟩ := same a ra ha
    obtain ⟨rb', hb', eb⟩ := same b' rb hb2
    rw [← ea] at he
    rw [← eb]
    exact h.rows.apart a b' ra' rb' b hab ha' hb' he
end
theorem NV.blk {n0 p : Nat} {w : World} (h : NV n0 w p) : ∃ cp, w.heap[p]? = some (.cells cp 81 (0, 0)) := let ⟨_, _, _, _, _, hb, _⟩ := h; ⟨_, hb⟩

/-- A world that is being made out of numbers. -/
structure WN (w : World) (p C B : Nat) (cs : List Value) (A0 : Option Addr) (n0 c0 : Nat) (l0 : List Val) (rs : List IR) (W : World) : Prop where
  mw : MW w C B cs A0 n0 c0 l0 rs W
  nv : NV w.heap.size W p
section
variable {w W W1 : World} {p C B : Nat} {cs : List Value} {A0 : Option Addr} {n0 c0 : Nat} {l0 : List Val} {rs : List IR}
theorem WN.quiet (h : WN w p C B cs A0 n0 c0 l0 rs W) (hk : Keep (fun _ => False) W W1) : WN w p C B cs A0 n0 c0 l0 rs W1 := ⟨h.mw.quiet hk, h.nv.keep hk id (fun _ => False.elim)⟩
theorem WN.next (h : WN w p C B cs A0 n0 c0 l0 rs W) (hN : NV w.heap.size W1 p) (hk : Keep (fun k => k = p) W W1) : WN w p C B cs A0 n0 c0 l0 rs W1 := by
  obtain ⟨cp, hp⟩ := h.nv.blk
  exact ⟨h.mw.other hp h.nv.base (by decide) (by decide) (by decide) hk, hN⟩
theorem WN.grow0 (h : WN w p C B cs A0 n0 c0 l0 rs W) {A : Option Addr} {n c : Nat} {l : List Val} (hg : W.grownBy W1 (Value.slice A0 n0 c0).ownBlock) (ho : W1.ownsRow w.heap.size 75 3 (.slice A n c) n (valc l)) : WN w p C B cs A n c l rs W1 := by
  obtain ⟨cp, hp⟩ := h.nv.blk
  exact ⟨h.mw.grow0 hg ho, h.nv.keep ((Keep.refl (fun k => (Value.slice A0 n0 c0).ownBlock = some k) W).grown hg (fun k e => .inl e)) (fun e => blk_own_ne hp h.mw.ins e (by decide) rfl) (fun k e => own_low h.mw.ins e)⟩
theorem WN.growi (h : WN w p C B cs A0 n0 c0 l0 rs W) (i : Nat) (r : IR) (hi : rs[i]? = some r) {A : Option Addr} {n c : Nat} {xs : List Int} (hg : W.grownBy W1 (Value.slice r.A r.n r.c).ownBlock)
    (ho : W1.ownsRow w.heap.size 3 1 (.slice A n c) n (ints xs)) (hb : (Value.slice A n c).ownBlock = (Value.slice r.A r.n r.c).ownBlock ∨ (Value.slice A n c).ownBlock = some W.heap.size) : WN w p C B cs A0 n0 c0 l0 (rs.set i ⟨A, n, c, xs⟩) W1 := by
  obtain ⟨cp, hp⟩ := h.nv.blk
  have hr := h.mw.rows.own r (List.mem_of_getElem? hi)
  exact ⟨h.mw.growi i r hi hg ho hb, h.nv.keep ((Keep.refl (fun k => (Value.slice r.A r.n r.c).ownBlock = some k) W).grown hg (fun k e => .inl e)) (fun e => blk_own_ne hp hr e (by decide) rfl) (fun k e => own_low hr e)⟩
theorem WN.set (h : WN w p C B cs A0 n0 c0 l0 rs W) (k : Nat) (v : Value) : WN w p C B (cs.set k v) A0 n0 c0 l0 rs (W.setCell ⟨C, k, none⟩ v) := by
  obtain ⟨cp, hp⟩ := h.nv.blk
  refine ⟨h.mw.set k v, h.nv.keep (keep_set (Keep.refl (fun i => i = C) W) k v) (fun e => ?_) (fun i e => by have := h.mw.low; omega)⟩
  have := h.mw.blk
  rw [← e, hp] at this
  injection this with this
  injection this with _ h4
  exact absurd h4 (by decide)
end

/-- What a function answers that makes a world. -/
def WOut (P : WD → Prop) (w : World) (e : Ending) (w' : World) : Prop := ∃ d s, e = .returned (.agg #[.slice s.A0 d.ins.length s.c0, .slice s.A1 d.clocks.length s.c1, .slice s.A2 d.choices.length s.c2, .slice s.A3 d.fuel.length s.c3, .slice s.A4 d.limit.length s.c4, .int .i64 d.epoch]) ∧ WR w' d s ∧ P d ∧ Since w.heap.size w w'
theorem ints_len {W : World} {base n : Nat} {v : Value} {xs : List Int} (h : W.ownsRow base 3 1 v n (ints xs)) : n = xs.length := by
  have := h.1
  simp [ints] at this
  omega
theorem mw_out {w W W' : World} {C B : Nat} {cs : List Value} {A0 A1 A2 A3 A4 : Option Addr} {n0 c0 n1 c1 n2 c2 n3 c3 n4 c4 : Nat} {l0 : List Val} {x1 x2 x3 x4 : List Int} {ep : Int} {P : WD → Prop}
    (h : MW w C B cs A0 n0 c0 l0 [⟨A1, n1, c1, x1⟩, ⟨A2, n2, c2, x2⟩, ⟨A3, n3, c3, x3⟩, ⟨A4, n4, c4, x4⟩] W) (hk : Keep (fun i => i = B) W W') (hB : w.heap.size ≤ B)
    (hP : P ⟨l0, x1, x2, x3, x4, ep⟩) (hpl : ∀ v ∈ l0, PlainS v.s) (hn : n0 ≤ 100000 ∧ n1 ≤ 100000 ∧ n2 ≤ 100000 ∧ n3 ≤ 100000 ∧ n4 ≤ 100000) :
    WOut P w (.returned (.agg #[.slice A0 n0 c0, .slice A1 n1 c1, .slice A2 n2 c2, .slice A3 n3 c3, .slice A4 n4 c4, .int .i64 ep])) W' := by
  have r1 := h.rows.own ⟨A1, n1, c1, x1⟩ (by simp)
  have r2 := h.rows.own ⟨A2, n2, c2, x2⟩ (by simp)
  have r3 := h.rows.own ⟨A3, n3, c3, x3⟩ (by simp)
  have r4 := h.rows.own ⟨A4, n4, c4, x4⟩ (by simp)
  have r0 := h.ins
  obtain rfl : n1 = x1.length := ints_len r1
  obtain rfl : n2 = x2.length := ints_len r2
  obtain rfl : n3 = x3.length := ints_len r3
  obtain rfl : n4 = x4.length := ints_len r4
  obtain rfl : n0 = l0.length := by have := r0.1; rw [valc_length] at this; omega
  have far : ∀ {e : TypeId} {size n : Nat} {v : Value} {xs : List Value}, e ≠ 63 → W.ownsRow w.heap.size e size v n xs → W'.ownsRow w.heap.size e size v n xs := fun he ho => hk.own ho (fun b e hf => blk_own_ne h.res ho e (Ne.symm he) hf)
  exact ⟨⟨l0, x1, x2, x3, x4, ep⟩, ⟨A0, c0, A1, c1, A2, c2, A3, c3, A4, c4⟩, rfl, ⟨⟨_, far (by decide) r0⟩, ⟨_, far (by decide) r1⟩, ⟨_, far (by decide) r2⟩, ⟨_, far (by decide) r3⟩, ⟨_, far (by decide) r4⟩, hpl, hn⟩, hP, Keep.trans h.since (Keep.mono hk (fun k e => by omega))⟩
theorem world_ret {w W : World} {C B : Nat} {cs : List Value} {A0 A1 A2 A3 A4 : Option Addr} {n0 c0 n1 c1 n2 c2 n3 c3 n4 c4 : Nat} {l0 : List Val} {x1 x2 x3 x4 : List Int} {ep : Int} {P : WD → Prop}
    (h : MW w C B cs A0 n0 c0 l0 [⟨A1, n1, c1, x1⟩, ⟨A2, n2, c2, x2⟩, ⟨A3, n3, c3, x3⟩, ⟨A4, n4, c4, x4⟩] W) (hB : w.heap.size ≤ B)
    (hP : P ⟨l0, x1, x2, x3, x4, ep⟩) (hpl : ∀ v ∈ l0, PlainS v.s) (hn : n0 ≤ 100000 ∧ n1 ≤ 100000 ∧ n2 ≤ 100000 ∧ n3 ≤ 100000 ∧ n4 ≤ 100000) (tmps : Array Value) (ht : tmps.getD 2 undef = .pointer (some ⟨B, 0, none⟩)) :
    bodyPost Try.prog Try.f27 (WOut P w) Exit.ret { tmps := tmps, defers := [] }
      ((((((W.setCell ⟨B, 0, none⟩ (.slice A0 n0 c0)).setCell ⟨B, 1, none⟩ (.slice A1 n1 c1)).setCell ⟨B, 2, none⟩ (.slice A2 n2 c2)).setCell ⟨B, 3, none⟩ (.slice A3 n3 c3)).setCell ⟨B, 4, none⟩ (.slice A4 n4 c4)).setCell ⟨B, 5, none⟩ (.int .i64 ep)) := by
  have hb := blk_set (blk_set (blk_set (blk_set (blk_set (blk_set h.res 0 (.slice A0 n0 c0)) 1 (.slice A1 n1 c1)) 2 (.slice A2 n2 c2)) 3 (.slice A3 n3 c3)) 4 (.slice A4 n4 c4)) 5 (.int .i64 ep)
  have hkk : Keep (fun i => i = B) W ((((((W.setCell ⟨B, 0, none⟩ (.slice A0 n0 c0)).setCell ⟨B, 1, none⟩ (.slice A1 n1 c1)).setCell ⟨B, 2, none⟩ (.slice A2 n2 c2)).setCell ⟨B, 3, none⟩ (.slice A3 n3 c3)).setCell ⟨B, 4, none⟩ (.slice A4 n4 c4)).setCell ⟨B, 5, none⟩ (.int .i64 ep)) :=
    keep_set (keep_set (keep_set (keep_set (keep_set (keep_set (Keep.refl _ W) _ _) _ _) _ _) _ _) _ _) _ _
  exact bodyPost_ret (results_cell_row rfl _ _ B _ _ _ _ ht hb Try.underlying63 rfl (by kernel_rfl)) rfl (mw_out h hkk hB hP hpl hn)
theorem bent_ret {w W : World} {C B : Nat} {cs : List Value} {A0 A1 A2 A3 A4 : Option Addr} {n0 c0 n1 c1 n2 c2 n3 c3 n4 c4 : Nat} {l0 : List Val} {x1 x2 x3 x4 : List Int} {ep : Int} {P : WD → Prop}
    (h : MW w C B cs A0 n0 c0 l0 [⟨A1, n1, c1, x1⟩, ⟨A2, n2, c2, x2⟩, ⟨A3, n3, c3, x3⟩, ⟨A4, n4, c4, x4⟩] W) (hB : w.heap.size ≤ B)
    (hP : P ⟨l0, x1, x2, x3, x4, ep⟩) (hpl : ∀ v ∈ l0, PlainS v.s) (hn : n0 ≤ 100000 ∧ n1 ≤ 100000 ∧ n2 ≤ 100000 ∧ n3 ≤ 100000 ∧ n4 ≤ 100000) (tmps : Array Value) (ht : tmps.getD 4 undef = .pointer (some ⟨B, 0, none⟩)) :
    bodyPost Try.prog Try.f28 (WOut P w) Exit.ret { tmps := tmps, defers := [] }
      ((((((W.setCell ⟨B, 0, none⟩ (.slice A0 n0 c0)).setCell ⟨B, 1, none⟩ (.slice A1 n1 c1)).setCell ⟨B, 2, none⟩ (.slice A2 n2 c2)).setCell ⟨B, 3, none⟩ (.slice A3 n3 c3)).setCell ⟨B, 4, none⟩ (.slice A4 n4 c4)).setCell ⟨B, 5, none⟩ (.int .i64 ep)) := by
  have hb := blk_set (blk_set (blk_set (blk_set (blk_set (blk_set h.res 0 (.slice A0 n0 c0)) 1 (.slice A1 n1 c1)) 2 (.slice A2 n2 c2)) 3 (.slice A3 n3 c3)) 4 (.slice A4 n4 c4)) 5 (.int .i64 ep)
  have hkk : Keep (fun i => i = B) W ((((((W.setCell ⟨B, 0, none⟩ (.slice A0 n0 c0)).setCell ⟨B, 1, none⟩ (.slice A1 n1 c1)).setCell ⟨B, 2, none⟩ (.slice A2 n2 c2)).setCell ⟨B, 3, none⟩ (.slice A3 n3 c3)).setCell ⟨B, 4, none⟩ (.slice A4 n4 c4)).setCell ⟨B, 5, none⟩ (.int .i64 ep)) :=
    keep_set (keep_set (keep_set (keep_set (keep_set (keep_set (Keep.refl _ W) _ _) _ _) _ _) _ _) _ _) _ _
  exact bodyPost_ret (results_cell_row rfl _ _ B _ _ _ _ ht hb Try.underlying63 rfl (by kernel_rfl)) rfl (mw_out h hkk hB hP hpl hn)
end Go.Proofs.Ytbbeoeoengogpaa
