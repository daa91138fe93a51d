/- steps: the two writes, a Sync behind each. -/
import Derived.Test.YtbmmcdnmbdoglaaJ6
import Derived.Defers
import Derived.RegionTactic
import Derived.LoopN
import Derived.BigRegion
namespace Go.Proofs.Ytbmmcdnmbdoglaa
open Go.RowKit
set_option linter.unusedVariables false

theorem mend_any {w : World} {B2 Be jp : Nat} (e0 : Int) (b : Bool) (hb : (e0 != 0) = b) (u : FrameMode) (h2 : w.cell? ⟨B2, 0, none⟩ = some (.pointer (some ⟨jp, 0, none⟩))) (h4 : w.cell? ⟨jp, 4, none⟩ = some (.bool false)) (hz : w.frozen? ⟨jp, 4, none⟩ = false) (he : w.cell? ⟨Be, 0, none⟩ = some (.int .i64 e0)) :
    CallsD Try.prog 40 #[.pointer (some ⟨B2, 0, none⟩), .pointer (some ⟨Be, 0, none⟩)] u w fun e u' w' => u' = u ∧ (e = .returned (.tuple #[]) ∧ w' = (w.setCell ⟨jp, 4, none⟩ (.bool b)).drew) := by
  go_enter_d Try.func40, Try.ntmps40
  go_wp2_with fail
  go_region
  all_goals go_wp2_with fail
  all_goals go_end0
  all_goals exact ⟨rfl, rfl⟩

/-- Where the closures of Append and what they captured lie. -/
structure Clo where
  (Ba B2 B3 B5 : Nat)
  x : ByteArray
  next : Nat
/-- The state of steps between two of its calls. -/
structure SS (w0 : World) (r0 : Rep) (jp : Nat) (j : JS) (k : Clo) (w : World) (r : Rep) (d : DS) (e : Int) : Prop where
  jd : JD w jp r d j
  boxJ : w.heap[w0.heap.size]? = some (.cells #[.pointer (some ⟨jp, 0, none⟩)] 27 (0, 0))
  boxE : w.heap[w0.heap.size + 1]? = some (.cells #[.int .i64 e] 28 (0, 0))
  f0 : w.cell? ⟨k.Ba, 0, none⟩ = some (.func (.func 30) #[] #[.pointer (some ⟨k.B2, 0, none⟩), .pointer (some ⟨k.B3, 0, none⟩)])
  f1 : w.cell? ⟨k.Ba, 1, none⟩ = some (.func (.func 32) #[] #[.pointer (some ⟨k.B2, 0, none⟩), .pointer (some ⟨k.B5, 0, none⟩)])
  b2 : w.cell? ⟨k.B2, 0, none⟩ = some (.pointer (some ⟨jp, 0, none⟩))
  b3 : w.cell? ⟨k.B3, 0, none⟩ = some (.string k.x)
  b5 : w.cell? ⟨k.B5, 0, none⟩ = some (.int .i64 (k.next : Int))
  low : k.Ba < w0.heap.size ∧ k.B2 < w0.heap.size ∧ k.B3 < w0.heap.size ∧ k.B5 < w0.heap.size ∧ jp < w0.heap.size
  n : ¬ r.foot k.Ba ∧ ¬ r.foot k.B2 ∧ ¬ r.foot k.B3 ∧ ¬ r.foot k.B5 ∧ ¬ r.foot w0.heap.size ∧ ¬ r.foot (w0.heap.size + 1)
  kp : Keep r0.foot w0 w
  ft : ∀ i, r.foot i → r0.foot i ∨ w0.heap.size ≤ i
  p : r.p = r0.p
theorem SS.step {w0 w w' : World} {r0 r r' : Rep} {jp : Nat} {j : JS} {k : Clo} {d d' : DS} {e : Int} (h : SS w0 r0 jp j k w r d e) (hs : Step w r w' r' d') : SS w0 r0 jp j k w' r' d' e := by
  have hsz : w0.heap.size + 1 < w.heap.size := blk_lt h.boxE
  have hl := h.low
  have hn : ∀ b, b < w.heap.size → ¬ r.foot b → ¬ r'.foot b := fun b hb hr hk => by
    rcases hs.foot b hk with h1 | h1
    · exact hr h1
    · omega
  have hjl : jp < w.heap.size := blk_lt h.jd.blk
  refine ⟨⟨?_, hs.disk, hn _ hjl h.jd.q⟩, ?_, ?_, cell_kept hs.keep h.f0 h.n.1, cell_kept hs.keep h.f1 h.n.1, cell_kept hs.keep h.b2 h.n.2.1, cell_kept hs.keep h.b3 h.n.2.2.1, cell_kept hs.keep h.b5 h.n.2.2.2.1, hl,
    ⟨hn _ (by omega) h.n.1, hn _ (by omega) h.n.2.1, hn _ (by omega) h.n.2.2.1, hn _ (by omega) h.n.2.2.2.1, hn _ (by omega) h.n.2.2.2.2.1, hn _ hsz h.n.2.2.2.2.2⟩, h.kp.then hs.keep (fun i hi => h.ft i hi), ?_, hs.p.trans h.p⟩
  · rw [hs.p]
    exact (hs.keep.block _ hjl h.jd.q).trans h.jd.blk
  · exact (hs.keep.block _ (by omega) h.n.2.2.2.2.1).trans h.boxJ
  · exact (hs.keep.block _ hsz h.n.2.2.2.2.2).trans h.boxE
  · intro i hi
    rcases hs.foot i hi with h1 | h1
    · exact h.ft i h1
    · omega
theorem SS.store {w0 w : World} {r0 r : Rep} {jp : Nat} {j : JS} {k : Clo} {d : DS} {e : Int} (h : SS w0 r0 jp j k w r d e) (e' : Int) : SS w0 r0 jp j k (w.setCell ⟨w0.heap.size + 1, 0, none⟩ (.int .i64 e')) r d e' := by
  have hl := h.low
  have hk : Keep (fun i => i = w0.heap.size + 1) w (w.setCell ⟨w0.heap.size + 1, 0, none⟩ (.int .i64 e')) := (Keep.refl (fun i => i = w0.heap.size + 1) w).setCell (a := ⟨w0.heap.size + 1, 0, none⟩) (.inl rfl) _
  refine ⟨⟨set_other h.jd.blk _ _ (by show jp ≠ w0.heap.size + 1; omega), h.jd.disk.keep hk (fun i hi h' => h.n.2.2.2.2.2 (h' ▸ hi)), h.jd.q⟩, set_other h.boxJ _ _ (by show w0.heap.size ≠ w0.heap.size + 1; omega), blk_set h.boxE 0 _,
    cell_kept hk h.f0 (by show ¬ k.Ba = w0.heap.size + 1; omega), cell_kept hk h.f1 (by show ¬ k.Ba = w0.heap.size + 1; omega), cell_kept hk h.b2 (by show ¬ k.B2 = w0.heap.size + 1; omega), cell_kept hk h.b3 (by show ¬ k.B3 = w0.heap.size + 1; omega), cell_kept hk h.b5 (by show ¬ k.B5 = w0.heap.size + 1; omega), hl, h.n,
    h.kp.then hk (fun i hi => .inr (by omega)), h.ft, h.p⟩
theorem SS.cells {w0 w : World} {r0 r : Rep} {jp : Nat} {j : JS} {k : Clo} {d : DS} {e : Int} (h : SS w0 r0 jp j k w r d e) :
    w.cell? ⟨w0.heap.size, 0, none⟩ = some (.pointer (some ⟨jp, 0, none⟩)) ∧ w.cell? ⟨w0.heap.size + 1, 0, none⟩ = some (.int .i64 e) ∧ w.frozen? ⟨w0.heap.size + 1, 0, none⟩ = false ∧ w.cell? ⟨jp, 0, none⟩ = some (.pointer (some ⟨r.p, 0, none⟩)) := by
  refine ⟨?_, ?_, blk_free h.boxE 0, h.jd.cells.1⟩
  · rw [blk_cell h.boxJ]; rfl
  · rw [blk_cell h.boxE]; rfl
/-- What steps comes to. -/
def stepsJ (d : DS) (stop : Nat) (x : Bytes) (next : Nat) : Int × DS :=
  if (d.doWrite stop (numL x.length 4 ++ x)).1 = 0 then
    if (d.doWrite stop (numL x.length 4 ++ x)).2.doSync.1 = 0 then
      if ((d.doWrite stop (numL x.length 4 ++ x)).2.doSync.2.doWrite 0 (numL (next - 64) 8)).1 = 0 then ((d.doWrite stop (numL x.length 4 ++ x)).2.doSync.2.doWrite 0 (numL (next - 64) 8)).2.doSync
      else (d.doWrite stop (numL x.length 4 ++ x)).2.doSync.2.doWrite 0 (numL (next - 64) 8)
    else (d.doWrite stop (numL x.length 4 ++ x)).2.doSync
  else d.doWrite stop (numL x.length 4 ++ x)
section
variable {d d1 d2 d3 : DS} {stop next : Nat} {x : ByteArray} {X : Int × DS}
theorem stepsJ_1 (h1 : d.doWrite stop (numL x.size 4 ++ bs x) = X) (h : ¬ X.1 = 0) : stepsJ d stop (bs x) next = X := by
  unfold stepsJ
  rw [bs_length, h1, if_neg h]
theorem stepsJ_2 (h1 : d.doWrite stop (numL x.size 4 ++ bs x) = (0, d1)) (h2 : d1.doSync = X) (h : ¬ X.1 = 0) : stepsJ d stop (bs x) next = X := by
  unfold stepsJ
  rw [bs_length, h1, if_pos rfl, h2, if_neg h]
theorem stepsJ_3 (h1 : d.doWrite stop (numL x.size 4 ++ bs x) = (0, d1)) (h2 : d1.doSync = (0, d2)) (h3 : d2.doWrite 0 (numL (next - 64) 8) = X) (h : ¬ X.1 = 0) : stepsJ d stop (bs x) next = X := by
  unfold stepsJ
  rw [bs_length, h1, if_pos rfl, h2, if_pos rfl, h3, if_neg h]
theorem stepsJ_4 (h1 : d.doWrite stop (numL x.size 4 ++ bs x) = (0, d1)) (h2 : d1.doSync = (0, d2)) (h3 : d2.doWrite 0 (numL (next - 64) 8) = (0, d3)) (h4 : d3.doSync = X) : stepsJ d stop (bs x) next = X := by
  unfold stepsJ
  rw [bs_length, h1, if_pos rfl, h2, if_pos rfl, h3, if_pos rfl, h4]
end
theorem DS.few.mono' {d : DS} {k m : Nat} (h : d.few k) (hk : k ≤ m) : d.few m := ⟨by have := h.1; omega, by have := h.2; omega⟩
theorem few_sync {d : DS} {k : Nat} (h : d.few k) : d.doSync.2.few (k + 1) := by
  unfold DS.doSync
  split
  · exact h.mono' (by omega)
  · refine ⟨?_, Nat.zero_le _⟩
    show d.calls + 1 ≤ _
    have := h.1; omega
theorem few_write {d : DS} {k : Nat} (h : d.few k) (off : Int) (s : Bytes) (m : Nat) (hs : s.length ≤ m) (hm : 1 ≤ m) : (d.doWrite off s).2.few (k + m) := by
  unfold DS.doWrite
  split
  · split
    · exact h.mono' (by omega)
    · refine ⟨?_, ?_⟩
      · show d.calls + 1 ≤ _
        have := h.1; omega
      · show (d.parts ++ pieces _ _).length ≤ _
        rw [List.length_append]
        have := pieces_length s.length off.toNat s (Nat.le_refl _)
        have := h.2; omega
  · exact h.mono' (by omega)
def StepsEnd (w0 : World) (r0 : Rep) (jp : Nat) (j : JS) (X : Int × DS) (e : Ending) (w' : World) : Prop :=
  e = .returned (.int .i64 X.1) ∧ ∃ r', r'.p = r0.p ∧ JD w' jp r' X.2 { j with broken := X.1 != 0 } ∧ Keep (fun i => r0.foot i ∨ i = jp) w0 w' ∧ ∀ i, r'.foot i → r0.foot i ∨ w0.heap.size ≤ i
theorem SS.end_ {w0 w : World} {r0 r : Rep} {jp : Nat} {j : JS} {k : Clo} {d : DS} {e : Int} (h : SS w0 r0 jp j k w r d e) (X : Int × DS) (hX : X = (e, d)) :
    StepsEnd w0 r0 jp j X (.returned (.int .i64 e)) ((w.setCell ⟨jp, 4, none⟩ (.bool (e != 0))).drew) := by
  subst hX
  have hk : Keep (fun i => i = jp) w ((w.setCell ⟨jp, 4, none⟩ (.bool (e != 0))).drew) := Keep.trans ((Keep.refl (fun i => i = jp) w).setCell (a := ⟨jp, 4, none⟩) (.inl rfl) _) (keep_draw _ _)
  refine ⟨rfl, r, h.p, ⟨?_, h.jd.disk.keep hk (fun i hi h' => h.jd.q (h' ▸ hi)), h.jd.q⟩, (Keep.mono h.kp (fun i hi => .inl hi)).then hk (fun i hi => .inl (.inr hi)), h.ft⟩
  exact blk_set h.jd.blk 4 _

theorem steps_leave {w W : World} {r0 r : Rep} {jp : Nat} {j : JS} {k : Clo} {d : DS} {e : Int} (h : SS w r0 jp j k W r d e) (hj : j.broken = false) {X : Int × DS} (hX : X = (e, d)) (tmps : Array Value) (ht : tmps[4]? = some (.pointer (some ⟨w.heap.size + 1, 0, none⟩))) :
    Leaves Try.prog Try.f29 tmps (StepsEnd w r0 jp j X) [{ target := .fn (.func 40) #[.pointer (some ⟨w.heap.size, 0, none⟩), .pointer (some ⟨w.heap.size + 1, 0, none⟩)], args := #[] }] .returning W := by
  obtain ⟨k0, k1, k2, k3⟩ := h.cells
  have hl := h.low
  have c4 : W.cell? ⟨jp, 4, none⟩ = some (.bool false) := by rw [h.jd.cells.2.2.2.2, hj]
  refine leaves_cons (f := 40) (args := #[.pointer (some ⟨w.heap.size, 0, none⟩), .pointer (some ⟨w.heap.size + 1, 0, none⟩)]) (by simp) (by simp [go_sem]) ?_
  refine (mend_any e _ rfl .returning k0 c4 (blk_free h.jd.blk 4) k1).mono ?_
  rintro e' u' w'' ⟨rfl, rfl, rfl⟩
  have hq : ((W.setCell ⟨jp, 4, none⟩ (.bool (e != 0))).drew).cell? ⟨w.heap.size + 1, 0, none⟩ = some (.int .i64 e) := by
    show (W.setCell ⟨jp, 4, none⟩ (.bool (e != 0))).cell? ⟨w.heap.size + 1, 0, none⟩ = some (.int .i64 e)
    rw [blk_cell (set_other h.boxE _ _ (by show w.heap.size + 1 ≠ jp; omega))]
    rfl
  have hend := h.end_ X hX
  rw [hX] at hend ⊢
  show ∃ v, _ ∧ _
  refine ⟨.int .i64 e, ?_, hend⟩
  simp [results, Try.results29, go_sem, ht, hq]

def stepped (w : World) (jp : Nat) : World := (w.alloc (.cells #[.pointer (some ⟨jp, 0, none⟩)] 27)).alloc (.cells #[.int .i64 0] 28)
set_option maxHeartbeats 4000000 in
set_option maxRecDepth 100000 in
theorem steps_any {w : World} {jp : Nat} {r : Rep} {d : DS} {j : JS} (k : Clo) (h : JD w jp r d j) (hj : j.broken = false) (hf : d.few 80000000) (hx : k.x.size ≤ 16777216) (hs : j.stop ≤ 33554432) (hn : 64 ≤ k.next) (hn2 : k.next ≤ 33554432)
    (f0 : w.cell? ⟨k.Ba, 0, none⟩ = some (.func (.func 30) #[] #[.pointer (some ⟨k.B2, 0, none⟩), .pointer (some ⟨k.B3, 0, none⟩)]))
    (f1 : w.cell? ⟨k.Ba, 1, none⟩ = some (.func (.func 32) #[] #[.pointer (some ⟨k.B2, 0, none⟩), .pointer (some ⟨k.B5, 0, none⟩)]))
    (b2 : w.cell? ⟨k.B2, 0, none⟩ = some (.pointer (some ⟨jp, 0, none⟩))) (b3 : w.cell? ⟨k.B3, 0, none⟩ = some (.string k.x)) (b5 : w.cell? ⟨k.B5, 0, none⟩ = some (.int .i64 (k.next : Int)))
    (n : ¬ r.foot k.Ba ∧ ¬ r.foot k.B2 ∧ ¬ r.foot k.B3 ∧ ¬ r.foot k.B5) :
    Calls Try.prog 29 #[.pointer (some ⟨jp, 0, none⟩), .slice (some ⟨k.Ba, 0, none⟩) 2 2] w (StepsEnd w r jp j (stepsJ d j.stop (bs k.x) k.next)) := by
  have hmf := mk_func
  have hs0 : SS w r jp j k (stepped w jp) r d 0 := by
    have hk : Keep (fun _ => False) w (stepped w jp) := ((Keep.refl _ w).alloc' _).alloc' _
    have hl := h.disk.foot_lt
    exact ⟨⟨(hk.block _ (blk_lt h.blk) id).trans h.blk, h.disk.keep hk (fun _ _ => id), h.q⟩, alloc_old (alloc_at rfl), alloc_at (by simp), cell_kept hk f0 id, cell_kept hk f1 id, cell_kept hk b2 id, cell_kept hk b3 id, cell_kept hk b5 id,
      ⟨World.block_lt_of_cell? _ _ f0, World.block_lt_of_cell? _ _ b2, World.block_lt_of_cell? _ _ b3, World.block_lt_of_cell? _ _ b5, blk_lt h.blk⟩, ⟨n.1, n.2.1, n.2.2.1, n.2.2.2, fun hk => by have := hl _ hk; omega, fun hk => by have := hl _ hk; omega⟩, Keep.mono hk (fun _ => False.elim), fun i hi => .inl hi, rfl⟩
  have HS0 := Lib.hid hs0
  have HJ := Lib.hid hj
  have HB := Lib.hid (And.intro hf (And.intro hx (And.intro hs (And.intro hn hn2))))
  clear hf hx hs hn hn2 h hj f0 f1 b2 b3 b5 n hs0
  go_enter_defers Try.func29, Try.ntmps29
  go_wp2_with fail
  change Code.wp Try.prog _ _ _ (stepped w jp)
  obtain ⟨w1, hw1⟩ : ∃ w1, stepped w jp = w1 := ⟨_, rfl⟩
  rw [hw1] at HS0 ⊢
  clear hw1
  have hjl := HS0.out.low.2.2.2.2
  have hjn : ¬ jp = w.heap.size + 1 := by omega
  have c0 := HS0.out.f0
  obtain ⟨k0, k1, k2, k3⟩ := HS0.out.cells
  refine wp_loop_rounds 3 ?_
  rw [rounds_succ]
  go_wp2_with fail
  clear c0 k0 k1 k2 k3
  refine (first_any HS0.out.jd k.x HB.out.2.1 HB.out.2.2.1 (HB.out.1.mono' (by omega)) HS0.out.b2 HS0.out.b3 HS0.out.n.2.1 HS0.out.n.2.2.1).mono ?_
  obtain ⟨X1, hX1⟩ : ∃ X1, d.doWrite j.stop (numL k.x.size 4 ++ bs k.x) = X1 := ⟨_, rfl⟩
  have hf1 := few_write HB.out.1 j.stop (numL k.x.size 4 ++ bs k.x) 16777220 (by rw [List.length_append, numL_length, bs_length]; have := HB.out.2.1; omega) (by omega)
  rw [hX1] at hf1 ⊢
  rintro e w2 ⟨rfl, r2, hst2⟩
  have HS2 := Lib.hid (HS0.out.step hst2)
  have HX1 := Lib.hid hX1
  have HF1 := Lib.hid hf1
  clear hst2 hX1 hf1
  obtain ⟨k0, k1, k2, k3⟩ := HS2.out.cells
  have HS3 := Lib.hid (HS2.out.store X1.1)
  by_cases h1 : X1.1 = 0
  · obtain ⟨x1, d1⟩ := X1
    simp only at h1 HS2 HS3 HF1
    subst h1
    have HS3' := HS3
    go_wp2_with fail
    obtain ⟨w3, hw3⟩ : ∃ w3, w2.setCell ⟨w.heap.size + 1, 0, none⟩ (.int .i64 0) = w3 := ⟨_, rfl⟩
    rw [hw3] at HS3 ⊢
    clear hw3 HS3' k0 k1 k2 k3
    refine (sync_step HS3.out.jd.disk (HF1.out.mono' (by omega))).mono ?_
    obtain ⟨X2, hX2⟩ : ∃ X2, d1.doSync = X2 := ⟨_, rfl⟩
    have hf2 := few_sync HF1.out
    rw [hX2] at hf2 ⊢
    rintro e w4 ⟨rfl, r4, hst4⟩
    have HS4 := Lib.hid (HS3.out.step hst4)
    have HX2 := Lib.hid hX2
    have HF2 := Lib.hid hf2
    clear hst4 hX2 hf2
    obtain ⟨k0, k1, k2, k3⟩ := HS4.out.cells
    have HS5 := Lib.hid (HS4.out.store X2.1)
    by_cases h2 : X2.1 = 0
    · obtain ⟨x2, d2⟩ := X2
      simp only at h2 HS4 HS5 HF2
      subst h2
      go_wp2_with fail
      obtain ⟨w5, hw5⟩ : ∃ w5, w4.setCell ⟨w.heap.size + 1, 0, none⟩ (.int .i64 0) = w5 := ⟨_, rfl⟩
      rw [hw5] at HS5 ⊢
      clear hw5 k0 k1 k2 k3
      have c1 := HS5.out.f1
      obtain ⟨k0, k1, k2, k3⟩ := HS5.out.cells
      rw [rounds_succ]
      go_wp2_with fail
      clear c1 k0 k1 k2 k3
      refine (second_any HS5.out.jd k.next HB.out.2.2.2.1 HB.out.2.2.2.2 (HF2.out.mono' (by omega)) HS5.out.b2 HS5.out.b5 HS5.out.n.2.1 HS5.out.n.2.2.2.1).mono ?_
      obtain ⟨X3, hX3⟩ : ∃ X3, d2.doWrite 0 (numL (k.next - 64) 8) = X3 := ⟨_, rfl⟩
      have hf3 := few_write HF2.out 0 (numL (k.next - 64) 8) 8 (by rw [numL_length]; omega) (by omega)
      rw [hX3] at hf3 ⊢
      rintro e w6 ⟨rfl, r6, hst6⟩
      have HS6 := Lib.hid (HS5.out.step hst6)
      have HX3 := Lib.hid hX3
      have HF3 := Lib.hid hf3
      clear hst6 hX3 hf3
      obtain ⟨k0, k1, k2, k3⟩ := HS6.out.cells
      have HS7 := Lib.hid (HS6.out.store X3.1)
      by_cases h3 : X3.1 = 0
      · obtain ⟨x3, d3⟩ := X3
        simp only at h3 HS6 HS7 HF3
        subst h3
        go_wp2_with fail
        obtain ⟨w7, hw7⟩ : ∃ w7, w6.setCell ⟨w.heap.size + 1, 0, none⟩ (.int .i64 0) = w7 := ⟨_, rfl⟩
        rw [hw7] at HS7 ⊢
        clear hw7 k0 k1 k2 k3
        refine (sync_step HS7.out.jd.disk (HF3.out.mono' (by omega))).mono ?_
        obtain ⟨X4, hX4⟩ : ∃ X4, d3.doSync = X4 := ⟨_, rfl⟩
        rw [hX4]
        rintro e w8 ⟨rfl, r8, hst8⟩
        have HS8 := Lib.hid (HS7.out.step hst8)
        have HX4 := Lib.hid hX4
        clear hst8 hX4
        obtain ⟨k0, k1, k2, k3⟩ := HS8.out.cells
        have HS9 := Lib.hid (HS8.out.store X4.1)
        have HE := Lib.hid (stepsJ_4 HX1.out HX2.out HX3.out HX4.out)
        by_cases h4 : X4.1 = 0
        · obtain ⟨x4, d4⟩ := X4
          simp only at h4 HS8 HS9
          subst h4
          go_wp2_with fail
          obtain ⟨w9, hw9⟩ : ∃ w9, w8.setCell ⟨w.heap.size + 1, 0, none⟩ (.int .i64 0) = w9 := ⟨_, rfl⟩
          rw [hw9] at HS9 ⊢
          clear hw9 k0 k1 k2 k3
          obtain ⟨k0, k1, k2, k3⟩ := HS9.out.cells
          rw [rounds_succ]
          go_wp2_with fail
          exact steps_leave (HS9.out.store 0) HJ.out HE.out _ rfl
        · have b1 : (X4.1 == 0) = false := by simpa using h4
          have b2 : (X4.1 != 0) = true := by simpa using h4
          go_wp2_with fail
          exact steps_leave (HS9.out.store X4.1) HJ.out (by rw [HE.out]) _ rfl
      · have b1 : (X3.1 == 0) = false := by simpa using h3
        have b2 : (X3.1 != 0) = true := by simpa using h3
        have HE := Lib.hid (stepsJ_3 HX1.out HX2.out HX3.out h3)
        go_wp2_with fail
        exact steps_leave (HS7.out.store X3.1) HJ.out (by rw [HE.out]) _ rfl
    · have b1 : (X2.1 == 0) = false := by simpa using h2
      have b2 : (X2.1 != 0) = true := by simpa using h2
      have HE := Lib.hid (stepsJ_2 (next := k.next) HX1.out HX2.out h2)
      go_wp2_with fail
      exact steps_leave (HS5.out.store X2.1) HJ.out (by rw [HE.out]) _ rfl
  · have b1 : (X1.1 == 0) = false := by simpa using h1
    have b2 : (X1.1 != 0) = true := by simpa using h1
    have HE := Lib.hid (stepsJ_1 (next := k.next) HX1.out h1)
    go_wp2_with fail
    exact steps_leave (HS3.out.store X1.1) HJ.out (by rw [HE.out]) _ rfl
end Go.Proofs.Ytbmmcdnmbdoglaa
