/- Open, where the head is right. -/
import Derived.Test.YtbmmcdnmbdoglaaJ4
namespace Go.Proofs.Ytbmmcdnmbdoglaa
open Go.RowKit
set_option linter.unusedVariables false
attribute [local go_sem] Oper.semAt_some

theorem records_call (n : Nat) (p : Nat) (stop : Int) (w : World) :
    CallsIn Fence.wide n Try.prog 27 #[.pointer (some ⟨p, 0, none⟩), .int .i64 stop] w fun e w' => e = .returned (.func (.func 38) #[] #[.pointer (some ⟨w.heap.size + 1, 0, none⟩), .pointer (some ⟨w.heap.size, 0, none⟩)]) ∧
      w' = (w.alloc (.cells #[.pointer (some ⟨p, 0, none⟩)] 25)).alloc (.cells #[.int .i64 stop] 3) := by
  have hmf := mk_func
  refine callsIn_of_wp Try.func27 rfl trivial ?_ rfl
  simp only [Try.ntmps27, List.size_toArray, List.length_cons, List.length_nil, Nat.reduceAdd, Nat.reduceSub, Array.replicate_succ, Array.replicate_zero, List.push_toArray, List.append_toArray, List.nil_append, List.cons_append]
  gi_wp2
  go_ret
  exact ⟨rfl, rfl⟩
/-- What the iterator hands on, as an encoding. -/
def encR (x : Bytes × Bool) : Array Value := #[.string (sb (clip x.1)), .bool x.2]
theorem records_stops (n : Nat) (hn : 1 ≤ n) (Bd Be : Nat) (r : Rep) (d : DS) (stop : Nat) (F : Nat → Prop) (w : World) (hstop : stop ≤ 16777216 + 64)
    (hBd : w.cell? ⟨Bd, 0, none⟩ = some (.pointer (some ⟨r.p, 0, none⟩))) (hBe : w.cell? ⟨Be, 0, none⟩ = some (.int .i64 stop)) (hD : IsDisk w r d)
    (hFd : ∀ k, r.foot k → ¬ F k) (hFb : ¬ F Bd) (hFe : ¬ F Be) :
    SeqStopsK Fence.wide n Try.prog 38 #[.pointer (some ⟨Be, 0, none⟩), .pointer (some ⟨Bd, 0, none⟩)] encR (Keep F) (fun ys => ys = visF 16777216 d.now 64 stop) (fun pre => ∃ k, pre = (visF 16777216 d.now 64 stop).take k) 20000000 w := fun l J Jx W hW hJ _ hY h0 => by
  refine records_in n hn l Bd Be r d stop F J Jx hstop hY ?_ W ((hW.cell (p := ⟨Bd, 0, none⟩) (World.block_lt_of_cell? _ _ hBd)).trans hBd) ((hW.cell (p := ⟨Be, 0, none⟩) (World.block_lt_of_cell? _ _ hBe)).trans hBe) (hD.below hW) hFd hFb hFe h0
  intro pre W1 m hj
  exact hJ pre W1 _ none hj ⟨rfl, rfl, rfl, Nat.le_refl _, fun _ _ _ => rfl⟩ (fun r e => by cases e)

/-- The world at the loop over the records. -/
def ranged (w6 : World) (p : Nat) (stop : Int) : World :=
  ((((w6.alloc (.cells #[.pointer (some ⟨p, 0, none⟩), .int .i64 0, .int .i64 0, .int .i64 stop, .bool false] 52)).alloc (.cells #[.pointer (some ⟨w6.heap.size, 0, none⟩)] 27)).alloc (.cells #[.slice none 0 0] 22)).alloc
    (.cells #[.pointer (some ⟨p, 0, none⟩)] 25)).alloc (.cells #[.int .i64 stop] 3)
theorem ranged_keep (w6 : World) (p : Nat) (stop : Int) : Keep (fun _ => False) w6 (ranged w6 p stop) := (((((Keep.refl _ w6).alloc' _).alloc' _).alloc' _).alloc' _).alloc' _
theorem ranged_size (w6 : World) (p : Nat) (stop : Int) : (ranged w6 p stop).heap.size = w6.heap.size + 5 := by simp [ranged]
theorem alloc_old {w : World} {b : Nat} {o o' : Obj} (h : w.heap[b]? = some o) : (w.alloc o').heap[b]? = some o := (Below.heap_alloc _ _ _ (blk_lt h)).trans h
theorem alloc_at {w : World} {b : Nat} {cs : Array Value} {t : TypeId} (hb : b = w.heap.size) : (w.alloc (.cells cs t)).heap[b]? = some (.cells cs t (0, 0)) := by subst hb; exact heap_alloc_new _ _
theorem ranged_blk (w6 : World) (p : Nat) (stop : Int) :
    (ranged w6 p stop).heap[w6.heap.size]? = some (.cells #[.pointer (some ⟨p, 0, none⟩), .int .i64 0, .int .i64 0, .int .i64 stop, .bool false] 52 (0, 0)) ∧
    (ranged w6 p stop).heap[w6.heap.size + 1]? = some (.cells #[.pointer (some ⟨w6.heap.size, 0, none⟩)] 27 (0, 0)) ∧
    (ranged w6 p stop).heap[w6.heap.size + 1 + 1]? = some (.cells #[.slice none 0 0] 22 (0, 0)) ∧
    (ranged w6 p stop).heap[w6.heap.size + 1 + 1 + 1]? = some (.cells #[.pointer (some ⟨p, 0, none⟩)] 25 (0, 0)) ∧
    (ranged w6 p stop).heap[w6.heap.size + 1 + 1 + 1 + 1]? = some (.cells #[.int .i64 stop] 3 (0, 0)) :=
  ⟨alloc_old (alloc_old (alloc_old (alloc_old (alloc_at rfl)))), alloc_old (alloc_old (alloc_old (alloc_at (by simp)))), alloc_old (alloc_old (alloc_at (by simp))), alloc_old (alloc_at (by simp)), alloc_at (by simp)⟩

/-- What a journal keeps. -/
structure JS where
  (many bytes stop : Nat)
  (broken : Bool)
/-- A journal in memory, with its disk. -/
structure JD (w : World) (jp : Nat) (r : Rep) (d : DS) (j : JS) : Prop where
  blk : w.heap[jp]? = some (.cells #[.pointer (some ⟨r.p, 0, none⟩), .int .i64 (j.many : Int), .int .i64 (j.bytes : Int), .int .i64 (j.stop : Int), .bool j.broken] 52 (0, 0))
  disk : IsDisk w r d
  q : ¬ r.foot jp
def OpenEnd (w : World) (r : Rep) (d : DS) (n : Nat) (e : Ending) (w' : World) : Prop :=
  (recsF n d.now 64 (64 + n) = none ∧ e = .returned (.tuple #[.pointer none, .slice none 0 0, .int .i64 11]) ∧ ∃ r', Step w r w' r' d.sync) ∨
  (∃ l, recsF n d.now 64 (64 + n) = some l ∧ ∃ jp A c, e = .returned (.tuple #[.pointer (some ⟨jp, 0, none⟩), .slice A l.length c, .int .i64 0]) ∧
    ∃ r', Step w r w' r' d.sync ∧ JD w' jp r' d.sync ⟨l.length, bytesOf l, 64 + n, false⟩ ∧ w.heap.size ≤ jp ∧ CellsAt w' A l.length (strs l) ∧ (∀ a, A = some a → w.heap.size ≤ a.block ∧ ¬ r'.foot a.block ∧ a.block ≠ jp ∧ a.block < w'.heap.size) ∧ ((A = none → l.length = 0 ∧ c = 0) ∧ l.length ≤ c))
theorem own_cap' {w : World} {base : Nat} {e : TypeId} {A : Option Addr} {n c : Nat} {xs : List Value} (h : w.ownsRow base e 1 (.slice A n c) n xs) : n ≤ c := by
  obtain ⟨hl, h0 | ⟨g, cap, cur, hv, hg, hh, hn, hc, hs, ht⟩⟩ := id h
  · have := h0.2; omega
  · injection hv with e1 e2 e3
    omega

/-- The facts that hold where the loop over the records begins. -/
structure Ranged (w : World) (r r' : Rep) (d : DS) (n : Nat) (w5 w6 W0 : World) : Prop where
  low : ∀ k, r.foot k → k < w.heap.size
  st : Step w r w5 r' d.sync
  ft : ∀ k, r'.foot k → r.foot k ∨ w.heap.size + 3 ≤ k
  k56 : Keep (fun _ => False) w5 w6
  k60 : Keep (fun _ => False) w6 W0
  dk : IsDisk w6 r' d.sync
  big : w.heap.size + 3 ≤ w6.heap.size
  size : W0.heap.size = w6.heap.size + 5
  res : Res3 w.heap.size W0
theorem Ranged.step {w : World} {r r' : Rep} {d : DS} {n : Nat} {w5 w6 W0 Wf : World} (h : Ranged w r r' d n w5 w6 W0) (hk : Keep (fun k => (w.heap.size ≤ k ∧ k < w.heap.size + 3) ∨ w6.heap.size ≤ k) w6 Wf) : Step w r Wf r' d.sync := by
  refine ⟨h.dk.keep hk (fun k h1 h2 => ?_), h.st.p, (h.st.keep.trans (Keep.mono h.k56 (fun _ => False.elim))).then hk (fun k h2 => .inr ?_), h.st.foot⟩
  · have := h.dk.foot_lt k h1
    rcases h.ft k h1 with h3 | h3
    · have := h.low k h3; omega
    · omega
  · have := h.big; omega
theorem putObj_keep {F : Nat → Prop} {w W : World} {D : Nat} {o o' : Obj} (h : Keep F w W) (hD : F D ∨ w.heap.size ≤ D) : Keep F w (W.putObj D o') :=
  h.grown (grownBy_putObj' W D o') (fun k e => by cases e; exact hD)
theorem recs_map (l : List Bytes) (h : ∀ x ∈ l, x.length ≤ 16777216) : recs (l.map (·, true)) = l := by
  induction l with
  | nil => rfl
  | cons x l ih =>
    simp only [recs, List.map_cons] at ih ⊢
    rw [clip_id (h x (by simp)), ih (fun y hy => h y (by simp [hy]))]
theorem visF_len : ∀ (f : Nat) (c : Bytes) (pos stop : Nat), ∀ x ∈ visF f c pos stop, x.1.length ≤ c.length
  | 0, _, _, _, x, hx => by simp [visF] at hx
  | f + 1, c, pos, stop, x, hx => by
    unfold visF at hx
    split at hx
    · split at hx
      · rw [List.mem_singleton.1 hx]; simp
      · rcases List.mem_cons.1 hx with rfl | hx
        · exact readL_le _ _ _
        · exact visF_len f c _ stop x hx
    · simp at hx
theorem recsF_right {f n : Nat} {c : Bytes} (hc : c.length ≤ 16777216) (hn : n ≤ 16777216) {ys : List (Bytes × Bool)} (hy : ys = visF 16777216 c 64 (64 + n)) (ha : ∀ x ∈ ys, x.2 = true) : recsF n c 64 (64 + n) = some (recs ys) := by
  rw [recsF_more n 16777216 c 64 (64 + n) (by omega) (by omega)]
  rcases recsF_vis 16777216 c 64 (64 + n) (by omega) with ⟨l, h1, h2⟩ | ⟨h1, l, h2⟩
  · rw [h1, hy, h2, recs_map l (fun x hx => by have := visF_len 16777216 c 64 (64 + n) (x, true) (by rw [h2]; exact List.mem_map.2 ⟨x, hx, rfl⟩); simp only at this; omega)]
  · have := ha ([], false) (by rw [hy, h2]; simp)
    cases this
theorem recsF_wrong {n : Nat} {c : Bytes} (hn : n ≤ 16777216) {pre : List (Bytes × Bool)} (hp : ∃ k, pre = (visF 16777216 c 64 (64 + n)).take k) {x : Bytes × Bool} (hx : x ∈ pre) (hx2 : x.2 = false) : recsF n c 64 (64 + n) = none := by
  rw [recsF_more n 16777216 c 64 (64 + n) (by omega) (by omega)]
  obtain ⟨k, rfl⟩ := hp
  have hx' := List.mem_of_mem_take hx
  rcases recsF_vis 16777216 c 64 (64 + n) (by omega) with ⟨l, h1, h2⟩ | ⟨h1, l, h2⟩
  · rw [h2] at hx'
    obtain ⟨y, _, rfl⟩ := List.mem_map.1 hx'
    cases hx2
  · exact h1
theorem set_other {w : World} {b : Nat} {o : Obj} (h : w.heap[b]? = some o) (a : Addr) (v : Value) (hne : b ≠ a.block) : (w.setCell a v).heap[b]? = some o := (Below.heap_setCell _ _ _ _ hne).trans h
theorem put_other {w : World} {b D : Nat} {o o' : Obj} (h : w.heap[b]? = some o) (hne : b ≠ D) : (w.putObj D o').heap[b]? = some o := (World.putObj_heap_other hne).trans h

theorem slice_block {w : World} {base n c m size : Nat} {e : TypeId} {xs : List Value} {A : Option Addr} {b : Addr} (h : w.ownsRow base e size (.slice A m c) n xs) (hb : A = some b) : base ≤ b.block ∧ ∃ cur, w.heap[b.block]? = some (.cells cur e (0, 0)) := by
  rcases h.2 with ⟨e0, _⟩ | ⟨g, cap, cur, e0, hg, hh, _⟩
  · injection e0 with e1 _ _
    rw [e1] at hb
    cases hb
  · injection e0 with e1 _ _
    rw [e1] at hb
    obtain rfl := Option.some.inj hb
    exact ⟨hg, cur, hh⟩
theorem open_done {w : World} {r r' : Rep} {d : DS} {n : Nat} {w5 w6 W0 W : World} (h : Ranged w r r' d n w5 w6 W0) (hn : n ≤ 16777216) {ys : List (Bytes × Bool)} (hys : ys = visF 16777216 d.now 64 (64 + n)) {A' : Option Addr} {c' D : Nat}
    (h1 : W.heap[w6.heap.size]? = some (.cells #[.pointer (some ⟨r'.p, 0, none⟩), .int .i64 ((recs ys).length : Nat), .int .i64 (bytesOf (recs ys) : Nat), .int .i64 ((64 + n : Nat) : Int), .bool false] 52 (0, 0)))
    (h4 : W.ownsRow (w6.heap.size + 5) 9 1 (.slice A' (recs ys).length c') (recs ys).length (strs (recs ys)))
    (h5 : Keep (fun k => k = w6.heap.size ∨ k = w6.heap.size + 1 + 1 ∨ w6.heap.size + 5 ≤ k) W0 W) (h6 : ∀ x ∈ ys, x.2 = true) (hD : W0.heap.size ≤ D) (hDo : W.heap[D]? = some (.deferred (some []))) :
    let Wf := (((W.setCell ⟨w.heap.size, 0, none⟩ (.pointer (some ⟨w6.heap.size, 0, none⟩))).setCell ⟨w.heap.size + 1, 0, none⟩ (.slice A' (recs ys).length c')).setCell ⟨w.heap.size + 1 + 1, 0, none⟩ (.int .i64 0)).drew
    Wf.heap[D]? = some (.deferred (some [])) ∧ (Wf.putObj D (.deferred none)).cell? ⟨w.heap.size, 0, none⟩ = some (.pointer (some ⟨w6.heap.size, 0, none⟩)) ∧ (Wf.putObj D (.deferred none)).cell? ⟨w.heap.size + 1, 0, none⟩ = some (.slice A' (recs ys).length c') ∧
      (Wf.putObj D (.deferred none)).cell? ⟨w.heap.size + 1 + 1, 0, none⟩ = some (.int .i64 0) ∧
      OpenEnd w r d n (.returned (.tuple #[.pointer (some ⟨w6.heap.size, 0, none⟩), .slice A' (recs ys).length c', .int .i64 0])) (Wf.putObj D (.deferred none)) := by
  have hb := h.big
  have hs := h.size
  have hR : Res3 w.heap.size W := h.res.keep h5 (by omega) (by omega) (by omega)
  intro Wf
  have b0 : Wf.heap[w.heap.size]? = some (.cells #[.pointer (some ⟨w6.heap.size, 0, none⟩)] 27 (0, 0)) :=
    set_other (set_other (blk_set hR.1 0 _) _ _ (by show w.heap.size ≠ w.heap.size + 1; omega)) _ _ (by show w.heap.size ≠ w.heap.size + 1 + 1; omega)
  have b1 : Wf.heap[w.heap.size + 1]? = some (.cells #[.slice A' (recs ys).length c'] 22 (0, 0)) :=
    set_other (blk_set (set_other hR.2.1 _ _ (by show w.heap.size + 1 ≠ w.heap.size; omega)) 0 _) _ _ (by show w.heap.size + 1 ≠ w.heap.size + 1 + 1; omega)
  have b2 : Wf.heap[w.heap.size + 1 + 1]? = some (.cells #[.int .i64 0] 28 (0, 0)) :=
    blk_set (set_other (set_other hR.2.2 _ _ (by show w.heap.size + 1 + 1 ≠ w.heap.size; omega)) _ _ (by show w.heap.size + 1 + 1 ≠ w.heap.size + 1; omega)) 0 _
  have bD : Wf.heap[D]? = some (.deferred (some [])) :=
    set_other (set_other (set_other hDo _ _ (by show D ≠ w.heap.size; omega)) _ _ (by show D ≠ w.heap.size + 1; omega)) _ _ (by show D ≠ w.heap.size + 1 + 1; omega)
  have bj : Wf.heap[w6.heap.size]? = _ :=
    set_other (set_other (set_other h1 _ _ (by show w6.heap.size ≠ w.heap.size; omega)) _ _ (by show w6.heap.size ≠ w.heap.size + 1; omega)) _ _ (by show w6.heap.size ≠ w.heap.size + 1 + 1; omega)
  have hkW : Keep (fun k => (w.heap.size ≤ k ∧ k < w.heap.size + 3) ∨ w6.heap.size ≤ k) w6 W := (Keep.mono h.k60 (fun _ => False.elim)).then h5 (fun k hk => by rw [show w6.heap.size ≤ k ↔ w6.heap.size ≤ k from Iff.rfl]; exact .inr (by omega))
  have hkf : Keep (fun k => (w.heap.size ≤ k ∧ k < w.heap.size + 3) ∨ w6.heap.size ≤ k) w6 (Wf.putObj D (.deferred none)) := by
    refine putObj_keep (o := .deferred none) (Keep.trans (((hkW.setCell (.inl (.inl ⟨Nat.le_refl _, ?_⟩)) _).setCell (.inl (.inl ⟨Nat.le_succ _, ?_⟩)) _).setCell (.inl (.inl ⟨?_, ?_⟩)) _) (keep_draw _ _)) (.inr (by omega))
    · show w.heap.size < w.heap.size + 3; omega
    · show w.heap.size + 1 < w.heap.size + 3; omega
    · show w.heap.size ≤ w.heap.size + 1 + 1; omega
    · show w.heap.size + 1 + 1 < w.heap.size + 3; omega
  have hkg : Keep (fun k => (w.heap.size ≤ k ∧ k < w.heap.size + 3) ∨ k = D) W (Wf.putObj D (.deferred none)) := by
    refine putObj_keep (o := .deferred none) (Keep.trans ((((Keep.refl _ W).setCell (.inl (.inl ⟨Nat.le_refl _, ?_⟩)) _).setCell (.inl (.inl ⟨Nat.le_succ _, ?_⟩)) _).setCell (.inl (.inl ⟨?_, ?_⟩)) _) (keep_draw _ _)) (.inl (.inr rfl))
    · show w.heap.size < w.heap.size + 3; omega
    · show w.heap.size + 1 < w.heap.size + 3; omega
    · show w.heap.size ≤ w.heap.size + 1 + 1; omega
    · show w.heap.size + 1 + 1 < w.heap.size + 3; omega
  refine ⟨bD, ?_, ?_, ?_, .inr ⟨recs ys, recsF_right (f := 0) h.dk.ok.now hn hys h6, w6.heap.size, A', c', rfl, r', h.step hkf, ⟨put_other bj (by omega), (h.step hkf).disk, fun hq => ?_⟩, by omega, ?_, ?_, ?_⟩⟩
  · rw [blk_cell (put_other b0 (by omega))]; rfl
  · rw [blk_cell (put_other b1 (by omega))]; rfl
  · rw [blk_cell (put_other b2 (by omega))]; rfl
  · have := h.dk.foot_lt _ hq; omega
  · obtain ⟨A, c, e, hc⟩ := owns_cells h4
    injection e with e1 e2 e3
    subst e1
    refine hc.keep hkg (fun b hb2 h' => ?_)
    obtain ⟨hlow, cur, hcu⟩ := slice_block h4 hb2
    rcases h' with h' | h'
    · omega
    · rw [h', hDo] at hcu
      cases hcu
  · intro a ha
    obtain ⟨h1, cur, hcu⟩ := slice_block h4 ha
    have h2 := blk_lt hcu
    have h3 := hkg.size
    exact ⟨by omega, fun hq => by have := h.dk.foot_lt _ hq; omega, by omega, by omega⟩
  · obtain ⟨A, c, e, hno, _⟩ := own_none h4
    injection e with e1 e2 e3
    subst e1 e3
    exact ⟨hno, own_cap' h4⟩
theorem open_stop {w : World} {r r' : Rep} {d : DS} {n : Nat} {w5 w6 W0 W : World} (h : Ranged w r r' d n w5 w6 W0) (hn : n ≤ 16777216) {pre : List (Bytes × Bool)} (hp : ∃ k, pre = (visF 16777216 d.now 64 (64 + n)).take k) {x : Bytes × Bool} (hx : x ∈ pre) (hx2 : x.2 = false)
    (h5 : Keep (fun k => k = w6.heap.size ∨ k = w6.heap.size + 1 + 1 ∨ w6.heap.size + 5 ≤ k ∨ w.heap.size ≤ k ∧ k < w.heap.size + 3) W0 W)
    (q0 : W.heap[w.heap.size]? = some (.cells #[.pointer none] 27 (0, 0))) (q1 : W.heap[w.heap.size + 1]? = some (.cells #[.slice none 0 0] 22 (0, 0))) (q2 : W.heap[w.heap.size + 1 + 1]? = some (.cells #[.int .i64 11] 28 (0, 0)))
    {D : Nat} (hD : W0.heap.size ≤ D) :
    (W.putObj D (.deferred none)).cell? ⟨w.heap.size, 0, none⟩ = some (.pointer none) ∧ (W.putObj D (.deferred none)).cell? ⟨w.heap.size + 1, 0, none⟩ = some (.slice none 0 0) ∧
      (W.putObj D (.deferred none)).cell? ⟨w.heap.size + 1 + 1, 0, none⟩ = some (.int .i64 11) ∧ OpenEnd w r d n (.returned (.tuple #[.pointer none, .slice none 0 0, .int .i64 11])) (W.putObj D (.deferred none)) := by
  have hb := h.big
  have hs := h.size
  have hkW : Keep (fun k => (w.heap.size ≤ k ∧ k < w.heap.size + 3) ∨ w6.heap.size ≤ k) w6 W := (Keep.mono h.k60 (fun _ => False.elim)).then h5 (fun k hk => by
    rcases hk with hk | hk | hk | hk
    · exact .inr (by omega)
    · exact .inr (by omega)
    · exact .inr (by omega)
    · exact .inl (.inl hk))
  refine ⟨?_, ?_, ?_, .inl ⟨recsF_wrong hn hp hx hx2, rfl, r', h.step (putObj_keep (o := .deferred none) hkW (.inr (by omega)))⟩⟩
  · rw [blk_cell (put_other q0 (by omega))]; rfl
  · rw [blk_cell (put_other q1 (by omega))]; rfl
  · rw [blk_cell (put_other q2 (by omega))]; rfl

--MAIN
set_option maxRecDepth 100000 in
set_option maxHeartbeats 4000000 in
theorem open_zero {w : World} {r : Rep} {d : DS} (h : IsDisk w r d) (ho : d.off = false) (hf : d.few 100000000) (n : Nat) (hn : natL (readL d.now 0 8) 8 = n) (hn1 : n ≤ 16777216) (hz : n = 0) :
    Calls Try.prog 12 #[.pointer (some ⟨r.p, 0, none⟩)] w (OpenEnd w r d n) := by
  have HS := Lib.hid (open_sync h ho hf)
  have hnl := h.ok.now
  have hfl := h.foot_lt
  have HFL := Lib.hid hfl
  obtain ⟨L, hL⟩ : ∃ L, d.now.length = L := ⟨_, rfl⟩
  have HL := Lib.hid hL
  have HV := Lib.hid (show signed (natL (readL d.now 0 8) 8) = (n : Int) by rw [hn]; exact signed_small n (by omega))
  rw [hL] at hnl
  have HN := Lib.hid hn
  clear h ho hL hfl hf hn
  have b1 : decide ((n : Int) < 0) = false := by simp
  have b2 : decide (16777216 < (n : Int)) = false := by simp; omega
  have b3 : decide (0 < n) = false := by simp [hz]
  have HZ := Lib.hid hz
  clear hz
  refine (callsIn_wide (n := 6)).1 ?_
  refine callsIn_of_wp_marks Try.func12 rfl trivial ?_ rfl
  simp only [Try.ntmps12, List.size_toArray, List.length_cons, List.length_nil, Nat.reduceAdd, Nat.reduceSub, Array.replicate_succ, Array.replicate_zero, List.push_toArray, List.append_toArray, List.nil_append, List.cons_append]
  gi_wp2_with fail
  refine ⟨trivial, ?_⟩
  change CallsIn Fence.wide _ Try.prog _ _ (opened w) _
  refine ((callsIn_wide).2 HS.out).mono ?_
  rintro e w5 ⟨rfl, r', hp, hst, hres, hft⟩
  have HFT := Lib.hid hft
  have HST := Lib.hid hst
  have HP := Lib.hid hp
  have HRES := Lib.hid hres
  clear hst hp hres hft
  gi_wp2_with fail
  rw [← HP.out]
  refine ⟨trivial, ((callsIn_wide).2 (read_disk HST.out.disk 0 8 (by decide) (by decide))).mono ?_⟩
  rintro e w6 ⟨rfl, m, hm⟩
  have HM := Lib.hid hm
  clear hm
  gi_wp2_with fail
  refine ⟨trivial, ((callsIn_wide).2 (value_any w6 (sb (readL d.now 0 8)) 8 (by omega) (by rw [sb_size]; have := readL_len d.now 0 8; simp at this; omega))).mono ?_⟩
  rintro e wx ⟨rfl, rfl⟩
  rw [bs_sb, HV.out]
  gi_wp2_with fail
  first
    | (refine ⟨trivial, ((callsIn_wide).2 (size_disk (show IsDisk w6 r' d.sync from HM.out ▸ HST.out.disk.drewN m))).mono ?_⟩
       rintro e wx ⟨rfl, rfl⟩
       rw [show (d.sync.now.length : Nat) = L from HL.out]
       gi_wp2_with fail)
    | (refine ⟨trivial, ?_⟩; gi_wp2_with fail)
  refine ⟨trivial, (records_call _ _ _ _).mono ?_⟩
  rintro e w7 ⟨rfl, rfl⟩
  gi_wp2_with fail
  change Code.wpIn _ _ _ _ _ _ (ranged w6 r'.p (64 + (n : Int)))
  have hD6 : IsDisk w6 r' d.sync := HM.out ▸ HST.out.disk.drewN m
  have hfl6 := hD6.foot_lt
  have hR6 : Res3 w.heap.size w6 := HM.out ▸ HRES.out
  have hn6 : w.heap.size + 3 ≤ w6.heap.size := by have := blk_lt hR6.2.2; omega
  obtain ⟨g1, g2, g3, g4, g5⟩ := ranged_blk w6 r'.p (64 + (n : Int))
  have hseq := records_stops (6 - 1) (by omega) (w6.heap.size + 1 + 1 + 1) (w6.heap.size + 1 + 1 + 1 + 1) r' d.sync (64 + n) (fun k => k = w6.heap.size ∨ k = w6.heap.size + 1 + 1 ∨ w6.heap.size + 5 ≤ k) (ranged w6 r'.p (64 + (n : Int))) (by omega)
    (by rw [blk_cell g4]; rfl) (by rw [blk_cell g5]; rfl) (hD6.keep (ranged_keep _ _ _) (fun _ _ => id)) (fun k hk h' => by have := hfl6 k hk; omega) (by omega) (by omega)
  have hR0 : Res3 w.heap.size (ranged w6 r'.p (64 + (n : Int))) := hR6.keep (ranged_keep _ _ _) id id id
  have hsz := ranged_size w6 r'.p (64 + (n : Int))
  obtain ⟨W0, hW0⟩ : ∃ W0, ranged w6 r'.p (64 + (n : Int)) = W0 := ⟨_, rfl⟩
  have hk0 : Keep (fun _ => False) w6 W0 := hW0 ▸ ranged_keep _ _ _
  rw [hW0] at g1 g2 g3 g4 g5 hseq hR0 hsz ⊢
  clear hW0
  have RG := Lib.hid (show Ranged w r r' d n w5 w6 W0 from ⟨HFL.out, HST.out, HFT.out, HM.out ▸ keep_drewN _ w5 m, hk0, hD6, hn6, hsz, hR0⟩)
  refine wpIn_rangeFunc_ownF rfl (by omega) (gf := 38) (lb := #[.pointer (some ⟨w6.heap.size + 1 + 1 + 1 + 1, 0, none⟩), .pointer (some ⟨w6.heap.size + 1 + 1 + 1, 0, none⟩)]) rfl trivial (enters_of Try.func38 (by kernel_rfl) rfl)
    hseq (fun h k => Keep.trans h k) ?hKb (Below.refl _ _) (fun _ => rfl) (OpenI W0 w6.heap.size (w6.heap.size + 5) r'.p (64 + n)) (OpenX W0 w.heap.size w6.heap.size (w6.heap.size + 5)) (by rw [hsz]; exact openI_own _ _ _ _ _ (by omega)) (fun c => by rw [hsz]; exact openX_own _ _ _ _ (by omega) c) ?start ?a1 ?assign ?body ?done ?stop
  case hKb =>
    intro W l o o' hl hlo _ _
    exact (Keep.refl _ W).grown (grownBy_putObj' W l o') (fun k e => by cases e; rw [hsz] at hl; exact .inl (.inr (.inr hl)))
  case start =>
    refine ⟨g1, g2, ⟨_, g3, ?_⟩, Keep.refl _ _, by simp⟩
    exact ⟨rfl, .inl ⟨rfl, rfl⟩⟩
  case assign =>
    intro l x W K hK
    unfold encR
    gi_wp2
    exact hK
  case body =>
    rintro l pre x W ⟨h1, h2, ⟨v, h3, h4⟩, h5, h6⟩ hlen
    obtain ⟨x1, x2⟩ := x
    cases x2 with
    | false =>
      have hr : Res3 w.heap.size W := hR0.keep h5 (by omega) (by omega) (by omega)
      obtain ⟨c0, c1, c2, f0, f1, f2⟩ := hr.cells
      have HR := Lib.hid (open_body_bad hR0 h5 (by omega) (by omega) pre x1)
      clear h1 h2 h3 h4 h5 h6 hr hseq g1 g2 g3 g4 g5 hR0 hfl6 hR6 hsz
      gi_wp2_with fail
      exact HR.out
    | true =>
      have hcl := open_body_mid h3 h4 h5 hsz
      have HCL := Lib.hid hcl
      have HNEW := Lib.hid (new_one (sb (clip x1)))
      have HAP := Lib.hid (open_body_app (x1 := x1) h1 h2 h3 h4 h5 hsz h6 hlen)
      have k0 : W.cell? ⟨w6.heap.size + 1 + 1, 0, none⟩ = some v := by rw [blk_cell h3]; rfl
      have hbl : (recs pre).length < 20000000 := by rw [recs_length]; exact hlen
      have hbb : bytesOf (recs pre) ≤ 20000000 * 16777232 := Nat.le_trans (recs_bytes pre) (Nat.mul_le_mul_right _ (Nat.le_of_lt hlen))
      have hcl1 : (sb (clip x1)).size ≤ 16777216 := by rw [sb_size]; exact clip_len x1
      have HLEN := Lib.hid hlen
      clear hcl h1 h2 h3 h4 h5 h6 hseq g1 g2 g3 g4 g5 hR0 hfl6 hR6 hsz
      gi_wp2_with fail
      refine wpIn_region_any (by kernel_rfl) ?_
      change wpAnyIn _ _ _ _ _ _ _ _ _ (World.drew _)
      refine wpAnyIn_ready (rs := [0, 1]) (by kernel_rfl) (by simp) ?_
      refine AllReadyIn.cons rfl (fun K hK => ?_) (AllReadyIn.cons rfl (fun K hK => ?_) AllReadyIn.nil)
      · go_simp
        refine hK _ _ ?_
        clear hK K
        refine wpAnyIn_ready (rs := [1]) (by kernel_rfl) (by simp) ?_
        refine AllReadyIn.cons rfl (fun K hK => ?_) AllReadyIn.nil
        go_simp
        refine hK _ _ ?_
        clear hK K
        refine wpAnyIn_ready (rs := [2]) (by kernel_rfl) (by simp) ?_
        refine AllReadyIn.cons rfl (fun K hK => ?_) AllReadyIn.nil
        go_simp
        refine ⟨trivial, (CallsIn.inRound l ((callsIn_wide).2 (clone_any (sb (clip x1)) W.drew (by rw [sb_size]; have := clip_len x1; omega)))).mono ?_⟩
        rintro e w1 ⟨rfl, hb⟩
        obtain ⟨q0, q1, q8, qa⟩ := HCL.out w1 hb
        have HB := Lib.hid hb
        have QA := Lib.hid qa
        have Q8 := Lib.hid q8
        clear hb qa q8
        refine hK _ _ ?_
        clear hK K
        refine wpAnyIn_ready (rs := [3]) (by kernel_rfl) (by simp) ?_
        refine AllReadyIn.cons rfl (fun K hK => ?_) AllReadyIn.nil
        go_simp
        refine hK _ _ ?_
        clear hK K
        refine wpAnyIn_ready (rs := [4]) (by kernel_rfl) (by simp) ?_
        refine AllReadyIn.cons rfl (fun K hK => ?_) AllReadyIn.nil
        refine stepIn_append 22 9 (.string ⟨#[]⟩) 16 (w6.heap.size + 5) Try.strs (.tmp 53) (.tmp 56) rfl rfl v (recs pre).length (strs (recs pre)) rfl (QA.out.alloc _) ⟨w1.heap.size, 0, none⟩ 1 1 [.string (sb (clip x1))] rfl rfl (fun j u hu => HNEW.out w1 j u hu) (fun u hu => by cases List.mem_singleton.1 hu; rfl) (by rw [recs_length]; omega) (by omega) (by rw [World.size_alloc]; have := Q8.out; omega) ?_
        intro v' w' ho hg
        obtain ⟨A', c', rfl, _⟩ := owns_cells ho
        obtain ⟨z0, z1, z2, z3, z4, z5, z6, za⟩ := HAP.out w1 _ w' HB.out ho hg
        have ZA := Lib.hid za
        clear za ho hg
        refine hK _ _ ?_
        clear hK K
        refine wpAnyIn_ready (rs := [5]) (by kernel_rfl) (by simp) ?_
        refine AllReadyIn.cons rfl (fun K hK => ?_) AllReadyIn.nil
        go_simp
        refine hK _ _ ?_
        clear hK K
        refine wpAnyIn_done (by kernel_rfl) ?_ _
        gi_wp2_with fail
        exact ZA.out
      · go_simp
        refine hK _ _ ?_
        clear hK K
        refine wpAnyIn_ready (rs := [0, 2]) (by kernel_rfl) (by simp) ?_
        refine AllReadyIn.cons rfl (fun K hK => ?_) (AllReadyIn.cons rfl (fun K hK => ?_) AllReadyIn.nil)
        · go_simp
          refine hK _ _ ?_
          clear hK K
          refine wpAnyIn_ready (rs := [2]) (by kernel_rfl) (by simp) ?_
          refine AllReadyIn.cons rfl (fun K hK => ?_) AllReadyIn.nil
          go_simp
          refine ⟨trivial, (CallsIn.inRound l ((callsIn_wide).2 (clone_any (sb (clip x1)) W.drew (by rw [sb_size]; have := clip_len x1; omega)))).mono ?_⟩
          rintro e w1 ⟨rfl, hb⟩
          obtain ⟨q0, q1, q8, qa⟩ := HCL.out w1 hb
          have HB := Lib.hid hb
          have QA := Lib.hid qa
          have Q8 := Lib.hid q8
          clear hb qa q8
          refine hK _ _ ?_
          clear hK K
          refine wpAnyIn_ready (rs := [3]) (by kernel_rfl) (by simp) ?_
          refine AllReadyIn.cons rfl (fun K hK => ?_) AllReadyIn.nil
          go_simp
          refine hK _ _ ?_
          clear hK K
          refine wpAnyIn_ready (rs := [4]) (by kernel_rfl) (by simp) ?_
          refine AllReadyIn.cons rfl (fun K hK => ?_) AllReadyIn.nil
          refine stepIn_append 22 9 (.string ⟨#[]⟩) 16 (w6.heap.size + 5) Try.strs (.tmp 53) (.tmp 56) rfl rfl v (recs pre).length (strs (recs pre)) rfl (QA.out.alloc _) ⟨w1.heap.size, 0, none⟩ 1 1 [.string (sb (clip x1))] rfl rfl (fun j u hu => HNEW.out w1 j u hu) (fun u hu => by cases List.mem_singleton.1 hu; rfl) (by rw [recs_length]; omega) (by omega) (by rw [World.size_alloc]; have := Q8.out; omega) ?_
          intro v' w' ho hg
          obtain ⟨A', c', rfl, _⟩ := owns_cells ho
          obtain ⟨z0, z1, z2, z3, z4, z5, z6, za⟩ := HAP.out w1 _ w' HB.out ho hg
          have ZA := Lib.hid za
          clear za ho hg
          refine hK _ _ ?_
          clear hK K
          refine wpAnyIn_ready (rs := [5]) (by kernel_rfl) (by simp) ?_
          refine AllReadyIn.cons rfl (fun K hK => ?_) AllReadyIn.nil
          go_simp
          refine hK _ _ ?_
          clear hK K
          refine wpAnyIn_done (by kernel_rfl) ?_ _
          gi_wp2_with fail
          exact ZA.out
        · go_simp
          refine ⟨trivial, (CallsIn.inRound l ((callsIn_wide).2 (clone_any (sb (clip x1)) W.drew (by rw [sb_size]; have := clip_len x1; omega)))).mono ?_⟩
          rintro e w1 ⟨rfl, hb⟩
          obtain ⟨q0, q1, q8, qa⟩ := HCL.out w1 hb
          have HB := Lib.hid hb
          have QA := Lib.hid qa
          have Q8 := Lib.hid q8
          clear hb qa q8
          refine hK _ _ ?_
          clear hK K
          refine wpAnyIn_ready (rs := [0, 3]) (by kernel_rfl) (by simp) ?_
          refine AllReadyIn.cons rfl (fun K hK => ?_) (AllReadyIn.cons rfl (fun K hK => ?_) AllReadyIn.nil)
          · go_simp
            refine hK _ _ ?_
            clear hK K
            refine wpAnyIn_ready (rs := [3]) (by kernel_rfl) (by simp) ?_
            refine AllReadyIn.cons rfl (fun K hK => ?_) AllReadyIn.nil
            go_simp
            refine hK _ _ ?_
            clear hK K
            refine wpAnyIn_ready (rs := [4]) (by kernel_rfl) (by simp) ?_
            refine AllReadyIn.cons rfl (fun K hK => ?_) AllReadyIn.nil
            refine stepIn_append 22 9 (.string ⟨#[]⟩) 16 (w6.heap.size + 5) Try.strs (.tmp 53) (.tmp 56) rfl rfl v (recs pre).length (strs (recs pre)) rfl (QA.out.alloc _) ⟨w1.heap.size, 0, none⟩ 1 1 [.string (sb (clip x1))] rfl rfl (fun j u hu => HNEW.out w1 j u hu) (fun u hu => by cases List.mem_singleton.1 hu; rfl) (by rw [recs_length]; omega) (by omega) (by rw [World.size_alloc]; have := Q8.out; omega) ?_
            intro v' w' ho hg
            obtain ⟨A', c', rfl, _⟩ := owns_cells ho
            obtain ⟨z0, z1, z2, z3, z4, z5, z6, za⟩ := HAP.out w1 _ w' HB.out ho hg
            have ZA := Lib.hid za
            clear za ho hg
            refine hK _ _ ?_
            clear hK K
            refine wpAnyIn_ready (rs := [5]) (by kernel_rfl) (by simp) ?_
            refine AllReadyIn.cons rfl (fun K hK => ?_) AllReadyIn.nil
            go_simp
            refine hK _ _ ?_
            clear hK K
            refine wpAnyIn_done (by kernel_rfl) ?_ _
            gi_wp2_with fail
            exact ZA.out
          · go_simp
            refine hK _ _ ?_
            clear hK K
            refine wpAnyIn_ready (rs := [0]) (by kernel_rfl) (by simp) ?_
            refine AllReadyIn.cons rfl (fun K hK => ?_) AllReadyIn.nil
            go_simp
            refine hK _ _ ?_
            clear hK K
            refine wpAnyIn_ready (rs := [4]) (by kernel_rfl) (by simp) ?_
            refine AllReadyIn.cons rfl (fun K hK => ?_) AllReadyIn.nil
            refine stepIn_append 22 9 (.string ⟨#[]⟩) 16 (w6.heap.size + 5) Try.strs (.tmp 53) (.tmp 56) rfl rfl v (recs pre).length (strs (recs pre)) rfl (QA.out.alloc _) ⟨w1.heap.size, 0, none⟩ 1 1 [.string (sb (clip x1))] rfl rfl (fun j u hu => HNEW.out w1 j u hu) (fun u hu => by cases List.mem_singleton.1 hu; rfl) (by rw [recs_length]; omega) (by omega) (by rw [World.size_alloc]; have := Q8.out; omega) ?_
            intro v' w' ho hg
            obtain ⟨A', c', rfl, _⟩ := owns_cells ho
            obtain ⟨z0, z1, z2, z3, z4, z5, z6, za⟩ := HAP.out w1 _ w' HB.out ho hg
            have ZA := Lib.hid za
            clear za ho hg
            refine hK _ _ ?_
            clear hK K
            refine wpAnyIn_ready (rs := [5]) (by kernel_rfl) (by simp) ?_
            refine AllReadyIn.cons rfl (fun K hK => ?_) AllReadyIn.nil
            go_simp
            refine hK _ _ ?_
            clear hK K
            refine wpAnyIn_done (by kernel_rfl) ?_ _
            gi_wp2_with fail
            exact ZA.out
  case done =>
    rintro D ys W hD hys ⟨h1, h2, ⟨v, h3, h4⟩, h5, h6⟩ hDo
    have hR : Res3 w.heap.size W := hR0.keep h5 (by omega) (by omega) (by omega)
    obtain ⟨c0, c1, c2, f0, f1, f2⟩ := hR.cells
    obtain ⟨A', c', rfl, _⟩ := owns_cells h4
    have k0 : W.cell? ⟨w6.heap.size + 1 + 1, 0, none⟩ = some (.slice A' (recs ys).length c') := by rw [blk_cell h3]; rfl
    have k1 : W.cell? ⟨w6.heap.size + 1, 0, none⟩ = some (.pointer (some ⟨w6.heap.size, 0, none⟩)) := by rw [blk_cell h2]; rfl
    have END := Lib.hid (open_done (W := W) (D := D) (A' := A') (c' := c') RG.out hn1 hys h1 h4 h5 h6 hD hDo)
    clear h1 h2 h3 h4 h5 h6 hseq g1 g2 g3 g4 g5 hR0 hfl6 hR6 hsz hR hD hys hDo
    gi_wp2_with fail
    gi_region
    all_goals gi_wp2_with fail
    all_goals (
      obtain ⟨e1, e2, e3, e4, e5⟩ := END.out
      refine ⟨by simp, .inl ⟨_, _, rfl, run_takeDeferred e1, ?_⟩⟩
      refine ⟨_, ?_, e5⟩
      simp [results, Try.results12, go_sem, e2, e3, e4])
  case stop =>
    rintro D c pre W hD hSp ⟨rfl, ⟨x, hx, hx2⟩, h5, q0, q1, q2⟩ hDo
    have END := Lib.hid (open_stop (D := D) RG.out hn1 hSp hx hx2 h5 q0 q1 q2 hD)
    have HDO := Lib.hid hDo
    clear hx hx2 h5 q0 q1 q2 hDo hseq g1 g2 g3 g4 g5 hR0 hfl6 hR6 hsz hSp hD
    gi_wp2_with fail
    obtain ⟨e2, e3, e4, e5⟩ := END.out
    refine ⟨by simp, .inl ⟨_, _, rfl, run_takeDeferred HDO.out, ?_⟩⟩
    refine ⟨_, ?_, e5⟩
    simp [results, Try.results12, go_sem, e2, e3, e4]

set_option maxRecDepth 100000 in
set_option maxHeartbeats 4000000 in
theorem open_pos {w : World} {r : Rep} {d : DS} (h : IsDisk w r d) (ho : d.off = false) (hf : d.few 100000000) (n : Nat) (hn : natL (readL d.now 0 8) 8 = n) (hn1 : n ≤ 16777216) (hz : 0 < n ∧ 64 + n ≤ d.now.length) :
    Calls Try.prog 12 #[.pointer (some ⟨r.p, 0, none⟩)] w (OpenEnd w r d n) := by
  have HS := Lib.hid (open_sync h ho hf)
  have hnl := h.ok.now
  have hfl := h.foot_lt
  have HFL := Lib.hid hfl
  obtain ⟨L, hL⟩ : ∃ L, d.now.length = L := ⟨_, rfl⟩
  have HL := Lib.hid hL
  have HV := Lib.hid (show signed (natL (readL d.now 0 8) 8) = (n : Int) by rw [hn]; exact signed_small n (by omega))
  rw [hL] at hnl hz
  have HN := Lib.hid hn
  clear h ho hL hfl hf hn
  have b1 : decide ((n : Int) < 0) = false := by simp
  have b2 : decide (16777216 < (n : Int)) = false := by simp; omega
  have b3 : decide (0 < n) = true := by simp; omega
  have b4 : decide ((L : Int) < 64 + (n : Int)) = false := by simp; omega
  have HZ := Lib.hid hz
  clear hz
  refine (callsIn_wide (n := 6)).1 ?_
  refine callsIn_of_wp_marks Try.func12 rfl trivial ?_ rfl
  simp only [Try.ntmps12, List.size_toArray, List.length_cons, List.length_nil, Nat.reduceAdd, Nat.reduceSub, Array.replicate_succ, Array.replicate_zero, List.push_toArray, List.append_toArray, List.nil_append, List.cons_append]
  gi_wp2_with fail
  refine ⟨trivial, ?_⟩
  change CallsIn Fence.wide _ Try.prog _ _ (opened w) _
  refine ((callsIn_wide).2 HS.out).mono ?_
  rintro e w5 ⟨rfl, r', hp, hst, hres, hft⟩
  have HFT := Lib.hid hft
  have HST := Lib.hid hst
  have HP := Lib.hid hp
  have HRES := Lib.hid hres
  clear hst hp hres hft
  gi_wp2_with fail
  rw [← HP.out]
  refine ⟨trivial, ((callsIn_wide).2 (read_disk HST.out.disk 0 8 (by decide) (by decide))).mono ?_⟩
  rintro e w6 ⟨rfl, m, hm⟩
  have HM := Lib.hid hm
  clear hm
  gi_wp2_with fail
  refine ⟨trivial, ((callsIn_wide).2 (value_any w6 (sb (readL d.now 0 8)) 8 (by omega) (by rw [sb_size]; have := readL_len d.now 0 8; simp at this; omega))).mono ?_⟩
  rintro e wx ⟨rfl, rfl⟩
  rw [bs_sb, HV.out]
  gi_wp2_with fail
  first
    | (refine ⟨trivial, ((callsIn_wide).2 (size_disk (show IsDisk w6 r' d.sync from HM.out ▸ HST.out.disk.drewN m))).mono ?_⟩
       rintro e wx ⟨rfl, rfl⟩
       rw [show (d.sync.now.length : Nat) = L from HL.out]
       gi_wp2_with fail)
    | (refine ⟨trivial, ?_⟩; gi_wp2_with fail)
  refine ⟨trivial, (records_call _ _ _ _).mono ?_⟩
  rintro e w7 ⟨rfl, rfl⟩
  gi_wp2_with fail
  change Code.wpIn _ _ _ _ _ _ (ranged w6 r'.p (64 + (n : Int)))
  have hD6 : IsDisk w6 r' d.sync := HM.out ▸ HST.out.disk.drewN m
  have hfl6 := hD6.foot_lt
  have hR6 : Res3 w.heap.size w6 := HM.out ▸ HRES.out
  have hn6 : w.heap.size + 3 ≤ w6.heap.size := by have := blk_lt hR6.2.2; omega
  obtain ⟨g1, g2, g3, g4, g5⟩ := ranged_blk w6 r'.p (64 + (n : Int))
  have hseq := records_stops (6 - 1) (by omega) (w6.heap.size + 1 + 1 + 1) (w6.heap.size + 1 + 1 + 1 + 1) r' d.sync (64 + n) (fun k => k = w6.heap.size ∨ k = w6.heap.size + 1 + 1 ∨ w6.heap.size + 5 ≤ k) (ranged w6 r'.p (64 + (n : Int))) (by omega)
    (by rw [blk_cell g4]; rfl) (by rw [blk_cell g5]; rfl) (hD6.keep (ranged_keep _ _ _) (fun _ _ => id)) (fun k hk h' => by have := hfl6 k hk; omega) (by omega) (by omega)
  have hR0 : Res3 w.heap.size (ranged w6 r'.p (64 + (n : Int))) := hR6.keep (ranged_keep _ _ _) id id id
  have hsz := ranged_size w6 r'.p (64 + (n : Int))
  obtain ⟨W0, hW0⟩ : ∃ W0, ranged w6 r'.p (64 + (n : Int)) = W0 := ⟨_, rfl⟩
  have hk0 : Keep (fun _ => False) w6 W0 := hW0 ▸ ranged_keep _ _ _
  rw [hW0] at g1 g2 g3 g4 g5 hseq hR0 hsz ⊢
  clear hW0
  have RG := Lib.hid (show Ranged w r r' d n w5 w6 W0 from ⟨HFL.out, HST.out, HFT.out, HM.out ▸ keep_drewN _ w5 m, hk0, hD6, hn6, hsz, hR0⟩)
  refine wpIn_rangeFunc_ownF rfl (by omega) (gf := 38) (lb := #[.pointer (some ⟨w6.heap.size + 1 + 1 + 1 + 1, 0, none⟩), .pointer (some ⟨w6.heap.size + 1 + 1 + 1, 0, none⟩)]) rfl trivial (enters_of Try.func38 (by kernel_rfl) rfl)
    hseq (fun h k => Keep.trans h k) ?hKb (Below.refl _ _) (fun _ => rfl) (OpenI W0 w6.heap.size (w6.heap.size + 5) r'.p (64 + n)) (OpenX W0 w.heap.size w6.heap.size (w6.heap.size + 5)) (by rw [hsz]; exact openI_own _ _ _ _ _ (by omega)) (fun c => by rw [hsz]; exact openX_own _ _ _ _ (by omega) c) ?start ?a1 ?assign ?body ?done ?stop
  case hKb =>
    intro W l o o' hl hlo _ _
    exact (Keep.refl _ W).grown (grownBy_putObj' W l o') (fun k e => by cases e; rw [hsz] at hl; exact .inl (.inr (.inr hl)))
  case start =>
    refine ⟨g1, g2, ⟨_, g3, ?_⟩, Keep.refl _ _, by simp⟩
    exact ⟨rfl, .inl ⟨rfl, rfl⟩⟩
  case assign =>
    intro l x W K hK
    unfold encR
    gi_wp2
    exact hK
  case body =>
    rintro l pre x W ⟨h1, h2, ⟨v, h3, h4⟩, h5, h6⟩ hlen
    obtain ⟨x1, x2⟩ := x
    cases x2 with
    | false =>
      have hr : Res3 w.heap.size W := hR0.keep h5 (by omega) (by omega) (by omega)
      obtain ⟨c0, c1, c2, f0, f1, f2⟩ := hr.cells
      have HR := Lib.hid (open_body_bad hR0 h5 (by omega) (by omega) pre x1)
      clear h1 h2 h3 h4 h5 h6 hr hseq g1 g2 g3 g4 g5 hR0 hfl6 hR6 hsz
      gi_wp2_with fail
      exact HR.out
    | true =>
      have hcl := open_body_mid h3 h4 h5 hsz
      have HCL := Lib.hid hcl
      have HNEW := Lib.hid (new_one (sb (clip x1)))
      have HAP := Lib.hid (open_body_app (x1 := x1) h1 h2 h3 h4 h5 hsz h6 hlen)
      have k0 : W.cell? ⟨w6.heap.size + 1 + 1, 0, none⟩ = some v := by rw [blk_cell h3]; rfl
      have hbl : (recs pre).length < 20000000 := by rw [recs_length]; exact hlen
      have hbb : bytesOf (recs pre) ≤ 20000000 * 16777232 := Nat.le_trans (recs_bytes pre) (Nat.mul_le_mul_right _ (Nat.le_of_lt hlen))
      have hcl1 : (sb (clip x1)).size ≤ 16777216 := by rw [sb_size]; exact clip_len x1
      have HLEN := Lib.hid hlen
      clear hcl h1 h2 h3 h4 h5 h6 hseq g1 g2 g3 g4 g5 hR0 hfl6 hR6 hsz
      gi_wp2_with fail
      refine wpIn_region_any (by kernel_rfl) ?_
      change wpAnyIn _ _ _ _ _ _ _ _ _ (World.drew _)
      refine wpAnyIn_ready (rs := [0, 1]) (by kernel_rfl) (by simp) ?_
      refine AllReadyIn.cons rfl (fun K hK => ?_) (AllReadyIn.cons rfl (fun K hK => ?_) AllReadyIn.nil)
      · go_simp
        refine hK _ _ ?_
        clear hK K
        refine wpAnyIn_ready (rs := [1]) (by kernel_rfl) (by simp) ?_
        refine AllReadyIn.cons rfl (fun K hK => ?_) AllReadyIn.nil
        go_simp
        refine hK _ _ ?_
        clear hK K
        refine wpAnyIn_ready (rs := [2]) (by kernel_rfl) (by simp) ?_
        refine AllReadyIn.cons rfl (fun K hK => ?_) AllReadyIn.nil
        go_simp
        refine ⟨trivial, (CallsIn.inRound l ((callsIn_wide).2 (clone_any (sb (clip x1)) W.drew (by rw [sb_size]; have := clip_len x1; omega)))).mono ?_⟩
        rintro e w1 ⟨rfl, hb⟩
        obtain ⟨q0, q1, q8, qa⟩ := HCL.out w1 hb
        have HB := Lib.hid hb
        have QA := Lib.hid qa
        have Q8 := Lib.hid q8
        clear hb qa q8
        refine hK _ _ ?_
        clear hK K
        refine wpAnyIn_ready (rs := [3]) (by kernel_rfl) (by simp) ?_
        refine AllReadyIn.cons rfl (fun K hK => ?_) AllReadyIn.nil
        go_simp
        refine hK _ _ ?_
        clear hK K
        refine wpAnyIn_ready (rs := [4]) (by kernel_rfl) (by simp) ?_
        refine AllReadyIn.cons rfl (fun K hK => ?_) AllReadyIn.nil
        refine stepIn_append 22 9 (.string ⟨#[]⟩) 16 (w6.heap.size + 5) Try.strs (.tmp 53) (.tmp 56) rfl rfl v (recs pre).length (strs (recs pre)) rfl (QA.out.alloc _) ⟨w1.heap.size, 0, none⟩ 1 1 [.string (sb (clip x1))] rfl rfl (fun j u hu => HNEW.out w1 j u hu) (fun u hu => by cases List.mem_singleton.1 hu; rfl) (by rw [recs_length]; omega) (by omega) (by rw [World.size_alloc]; have := Q8.out; omega) ?_
        intro v' w' ho hg
        obtain ⟨A', c', rfl, _⟩ := owns_cells ho
        obtain ⟨z0, z1, z2, z3, z4, z5, z6, za⟩ := HAP.out w1 _ w' HB.out ho hg
        have ZA := Lib.hid za
        clear za ho hg
        refine hK _ _ ?_
        clear hK K
        refine wpAnyIn_ready (rs := [5]) (by kernel_rfl) (by simp) ?_
        refine AllReadyIn.cons rfl (fun K hK => ?_) AllReadyIn.nil
        go_simp
        refine hK _ _ ?_
        clear hK K
        refine wpAnyIn_done (by kernel_rfl) ?_ _
        gi_wp2_with fail
        exact ZA.out
      · go_simp
        refine hK _ _ ?_
        clear hK K
        refine wpAnyIn_ready (rs := [0, 2]) (by kernel_rfl) (by simp) ?_
        refine AllReadyIn.cons rfl (fun K hK => ?_) (AllReadyIn.cons rfl (fun K hK => ?_) AllReadyIn.nil)
        · go_simp
          refine hK _ _ ?_
          clear hK K
          refine wpAnyIn_ready (rs := [2]) (by kernel_rfl) (by simp) ?_
          refine AllReadyIn.cons rfl (fun K hK => ?_) AllReadyIn.nil
          go_simp
          refine ⟨trivial, (CallsIn.inRound l ((callsIn_wide).2 (clone_any (sb (clip x1)) W.drew (by rw [sb_size]; have := clip_len x1; omega)))).mono ?_⟩
          rintro e w1 ⟨rfl, hb⟩
          obtain ⟨q0, q1, q8, qa⟩ := HCL.out w1 hb
          have HB := Lib.hid hb
          have QA := Lib.hid qa
          have Q8 := Lib.hid q8
          clear hb qa q8
          refine hK _ _ ?_
          clear hK K
          refine wpAnyIn_ready (rs := [3]) (by kernel_rfl) (by simp) ?_
          refine AllReadyIn.cons rfl (fun K hK => ?_) AllReadyIn.nil
          go_simp
          refine hK _ _ ?_
          clear hK K
          refine wpAnyIn_ready (rs := [4]) (by kernel_rfl) (by simp) ?_
          refine AllReadyIn.cons rfl (fun K hK => ?_) AllReadyIn.nil
          refine stepIn_append 22 9 (.string ⟨#[]⟩) 16 (w6.heap.size + 5) Try.strs (.tmp 53) (.tmp 56) rfl rfl v (recs pre).length (strs (recs pre)) rfl (QA.out.alloc _) ⟨w1.heap.size, 0, none⟩ 1 1 [.string (sb (clip x1))] rfl rfl (fun j u hu => HNEW.out w1 j u hu) (fun u hu => by cases List.mem_singleton.1 hu; rfl) (by rw [recs_length]; omega) (by omega) (by rw [World.size_alloc]; have := Q8.out; omega) ?_
          intro v' w' ho hg
          obtain ⟨A', c', rfl, _⟩ := owns_cells ho
          obtain ⟨z0, z1, z2, z3, z4, z5, z6, za⟩ := HAP.out w1 _ w' HB.out ho hg
          have ZA := Lib.hid za
          clear za ho hg
          refine hK _ _ ?_
          clear hK K
          refine wpAnyIn_ready (rs := [5]) (by kernel_rfl) (by simp) ?_
          refine AllReadyIn.cons rfl (fun K hK => ?_) AllReadyIn.nil
          go_simp
          refine hK _ _ ?_
          clear hK K
          refine wpAnyIn_done (by kernel_rfl) ?_ _
          gi_wp2_with fail
          exact ZA.out
        · go_simp
          refine ⟨trivial, (CallsIn.inRound l ((callsIn_wide).2 (clone_any (sb (clip x1)) W.drew (by rw [sb_size]; have := clip_len x1; omega)))).mono ?_⟩
          rintro e w1 ⟨rfl, hb⟩
          obtain ⟨q0, q1, q8, qa⟩ := HCL.out w1 hb
          have HB := Lib.hid hb
          have QA := Lib.hid qa
          have Q8 := Lib.hid q8
          clear hb qa q8
          refine hK _ _ ?_
          clear hK K
          refine wpAnyIn_ready (rs := [0, 3]) (by kernel_rfl) (by simp) ?_
          refine AllReadyIn.cons rfl (fun K hK => ?_) (AllReadyIn.cons rfl (fun K hK => ?_) AllReadyIn.nil)
          · go_simp
            refine hK _ _ ?_
            clear hK K
            refine wpAnyIn_ready (rs := [3]) (by kernel_rfl) (by simp) ?_
            refine AllReadyIn.cons rfl (fun K hK => ?_) AllReadyIn.nil
            go_simp
            refine hK _ _ ?_
            clear hK K
            refine wpAnyIn_ready (rs := [4]) (by kernel_rfl) (by simp) ?_
            refine AllReadyIn.cons rfl (fun K hK => ?_) AllReadyIn.nil
            refine stepIn_append 22 9 (.string ⟨#[]⟩) 16 (w6.heap.size + 5) Try.strs (.tmp 53) (.tmp 56) rfl rfl v (recs pre).length (strs (recs pre)) rfl (QA.out.alloc _) ⟨w1.heap.size, 0, none⟩ 1 1 [.string (sb (clip x1))] rfl rfl (fun j u hu => HNEW.out w1 j u hu) (fun u hu => by cases List.mem_singleton.1 hu; rfl) (by rw [recs_length]; omega) (by omega) (by rw [World.size_alloc]; have := Q8.out; omega) ?_
            intro v' w' ho hg
            obtain ⟨A', c', rfl, _⟩ := owns_cells ho
            obtain ⟨z0, z1, z2, z3, z4, z5, z6, za⟩ := HAP.out w1 _ w' HB.out ho hg
            have ZA := Lib.hid za
            clear za ho hg
            refine hK _ _ ?_
            clear hK K
            refine wpAnyIn_ready (rs := [5]) (by kernel_rfl) (by simp) ?_
            refine AllReadyIn.cons rfl (fun K hK => ?_) AllReadyIn.nil
            go_simp
            refine hK _ _ ?_
            clear hK K
            refine wpAnyIn_done (by kernel_rfl) ?_ _
            gi_wp2_with fail
            exact ZA.out
          · go_simp
            refine hK _ _ ?_
            clear hK K
            refine wpAnyIn_ready (rs := [0]) (by kernel_rfl) (by simp) ?_
            refine AllReadyIn.cons rfl (fun K hK => ?_) AllReadyIn.nil
            go_simp
            refine hK _ _ ?_
            clear hK K
            refine wpAnyIn_ready (rs := [4]) (by kernel_rfl) (by simp) ?_
            refine AllReadyIn.cons rfl (fun K hK => ?_) AllReadyIn.nil
            refine stepIn_append 22 9 (.string ⟨#[]⟩) 16 (w6.heap.size + 5) Try.strs (.tmp 53) (.tmp 56) rfl rfl v (recs pre).length (strs (recs pre)) rfl (QA.out.alloc _) ⟨w1.heap.size, 0, none⟩ 1 1 [.string (sb (clip x1))] rfl rfl (fun j u hu => HNEW.out w1 j u hu) (fun u hu => by cases List.mem_singleton.1 hu; rfl) (by rw [recs_length]; omega) (by omega) (by rw [World.size_alloc]; have := Q8.out; omega) ?_
            intro v' w' ho hg
            obtain ⟨A', c', rfl, _⟩ := owns_cells ho
            obtain ⟨z0, z1, z2, z3, z4, z5, z6, za⟩ := HAP.out w1 _ w' HB.out ho hg
            have ZA := Lib.hid za
            clear za ho hg
            refine hK _ _ ?_
            clear hK K
            refine wpAnyIn_ready (rs := [5]) (by kernel_rfl) (by simp) ?_
            refine AllReadyIn.cons rfl (fun K hK => ?_) AllReadyIn.nil
            go_simp
            refine hK _ _ ?_
            clear hK K
            refine wpAnyIn_done (by kernel_rfl) ?_ _
            gi_wp2_with fail
            exact ZA.out
  case done =>
    rintro D ys W hD hys ⟨h1, h2, ⟨v, h3, h4⟩, h5, h6⟩ hDo
    have hR : Res3 w.heap.size W := hR0.keep h5 (by omega) (by omega) (by omega)
    obtain ⟨c0, c1, c2, f0, f1, f2⟩ := hR.cells
    obtain ⟨A', c', rfl, _⟩ := owns_cells h4
    have k0 : W.cell? ⟨w6.heap.size + 1 + 1, 0, none⟩ = some (.slice A' (recs ys).length c') := by rw [blk_cell h3]; rfl
    have k1 : W.cell? ⟨w6.heap.size + 1, 0, none⟩ = some (.pointer (some ⟨w6.heap.size, 0, none⟩)) := by rw [blk_cell h2]; rfl
    have END := Lib.hid (open_done (W := W) (D := D) (A' := A') (c' := c') RG.out hn1 hys h1 h4 h5 h6 hD hDo)
    clear h1 h2 h3 h4 h5 h6 hseq g1 g2 g3 g4 g5 hR0 hfl6 hR6 hsz hR hD hys hDo
    gi_wp2_with fail
    gi_region
    all_goals gi_wp2_with fail
    all_goals (
      obtain ⟨e1, e2, e3, e4, e5⟩ := END.out
      refine ⟨by simp, .inl ⟨_, _, rfl, run_takeDeferred e1, ?_⟩⟩
      refine ⟨_, ?_, e5⟩
      simp [results, Try.results12, go_sem, e2, e3, e4])
  case stop =>
    rintro D c pre W hD hSp ⟨rfl, ⟨x, hx, hx2⟩, h5, q0, q1, q2⟩ hDo
    have END := Lib.hid (open_stop (D := D) RG.out hn1 hSp hx hx2 h5 q0 q1 q2 hD)
    have HDO := Lib.hid hDo
    clear hx hx2 h5 q0 q1 q2 hDo hseq g1 g2 g3 g4 g5 hR0 hfl6 hR6 hsz hSp hD
    gi_wp2_with fail
    obtain ⟨e2, e3, e4, e5⟩ := END.out
    refine ⟨by simp, .inl ⟨_, _, rfl, run_takeDeferred HDO.out, ?_⟩⟩
    refine ⟨_, ?_, e5⟩
    simp [results, Try.results12, go_sem, e2, e3, e4]
end Go.Proofs.Ytbmmcdnmbdoglaa
