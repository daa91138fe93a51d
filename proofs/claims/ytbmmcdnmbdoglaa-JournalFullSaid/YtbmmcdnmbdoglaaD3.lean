/- The contract of add: a part is appended to a disk's list of parts. -/
import Derived.Test.YtbmmcdnmbdoglaaD2
import Derived.Deep.AppendLies
import Derived.Deep.RegionLaw
namespace Go.Proofs.Ytbmmcdnmbdoglaa
open Go.RowKit
set_option linter.unusedVariables false

theorem Try.piece : (Try.prog.info? 68).map (fun i => (i.zero, i.size, i.bytes)) = some (some (.agg #[.int .i64 0, .slice none 0 0]), 2, 32) := by kernel_rfl

theorem grown_two {w w1 : World} (a b : Obj) (row : Option Nat) (h : (((w.alloc a).alloc b).drew).grownBy w1 row) : w.grownBy w1 row :=
  ⟨h.os, h.tape, h.output, Nat.le_trans (by simp; omega) h.size, fun k hk hne => (h.block k (by simp; omega) hne).trans ((Below.heap_alloc _ b k (by simp; omega)).trans (Below.heap_alloc w a k hk))⟩
theorem heap_at_two (w : World) (a b : Obj) : ((w.alloc a).alloc b).heap[w.heap.size + 1]? = some b := by
  have := heap_alloc_new (w.alloc a) b
  rwa [World.size_alloc] at this
theorem keep_grown_cell {w w1 : World} {row : Option Nat} (hg : w.grownBy w1 row) {p i : Nat} {v : Value} (h : w.cell? ⟨p, i, none⟩ = some v) (hne : row ≠ some p) : w1.cell? ⟨p, i, none⟩ = some v :=
  hg.cell h (fun e => hne e.symm)

set_option maxHeartbeats 1000000 in
theorem add_walk (w : World) (p : Nat) (pv : Value) (n : Nat) (xs : List Value) (off : Int) (A : Addr) (m c : Nat)
    (ho : w.ownsRow 0 68 2 pv n xs) (h2 : w.cell? ⟨p, 2, none⟩ = some pv) (f2 : w.frozen? ⟨p, 2, none⟩ = false) (hne : pv.ownBlock ≠ some p) (hn : n ≤ 1000000000) :
    Calls Try.prog 36 #[.pointer (some ⟨p, 2, none⟩), .agg #[.int .i64 off, .slice (some A) m c]] w fun e w' => e = .returned (.tuple #[]) ∧
      ∃ pv' w1, w' = w1.setCell ⟨p, 2, none⟩ pv' ∧ w1.ownsRow 0 68 2 pv' (n + 1) (xs ++ [.int .i64 off, .slice (some A) m c]) ∧ Keep (fun k => pv.ownBlock = some k) w w1 ∧ (pv'.ownBlock = pv.ownBlock ∨ ∃ b, pv'.ownBlock = some b ∧ w.heap.size ≤ b) := by
  obtain ⟨i0, hi, hz0, hz1, hz2⟩ := info_parts Try.piece
  obtain ⟨A2, c2, rfl⟩ := own_slice ho
  have hp : p < w.heap.size := by
    have := World.block_lt_of_cell? w _ h2
    exact this
  have HO := Lib.hid ho
  have HI := Lib.hid hi
  have HZ0 := Lib.hid hz0
  have HZ1 := Lib.hid hz1
  have HZ2 := Lib.hid hz2
  have HN := Lib.hid hne
  have H2 := Lib.hid h2
  have F2 := Lib.hid f2
  clear ho hi hz0 hz1 hz2 hne
  go_enter Try.func36, Try.ntmps36
  go_wp2_with fail
  go_region_law (refine step_append_lies _ rfl _ _ 55 rfl 0 68 i0 _ 2 32 Try.underlying55 HI.out HZ0.out HZ1.out HZ2.out rfl (by decide) _ n xs rfl (by exact (HO.out.alloc _).alloc _) ⟨w.heap.size + 1, 0, none⟩ 1 1 [.int .i64 off, .slice (some A) m c] rfl rfl (by exact World.news_of_block (cs := #[.int .i64 off, .slice (some A) m c]) (t := 68) (fr := (0, 0)) (by exact heap_at_two _ _ _)) (by simp [Value.oneCell']) (by omega) (by unfold maxLen; omega) (by omega) (by omega) _ rfl ?_; intro g cap w1 hown1 hgrow hat hlt; have hgw := grown_two _ _ _ hgrow; have hc2 := hgw.cell H2.out (fun e => HN.out e.symm); have hf2 := (World.frozen?_of_block (a := ⟨p, 2, none⟩) (hgw.block p hp (fun e => HN.out e.symm))).trans F2.out; have HOW := Lib.hid hown1; have HGW := Lib.hid hgw; have HAT := Lib.hid hat; clear hown1 hgrow hat hgw)
  all_goals go_end0
  all_goals refine ⟨rfl, _, w1, rfl, HOW.out, (Keep.refl _ w).grown HGW.out (fun k hk => .inl hk), ?_⟩
  all_goals rcases HAT.out with h | h
  all_goals first | exact .inl h.symm | exact .inr ⟨g, rfl, by simp at h; omega⟩

/-- add, at a disk: the text lies in a block of its own. -/
theorem add_disk {w : World} {r : Rep} {d : DS} (h : IsDisk w r d) (off : Nat) (t : Bytes) (A : Addr) (c : Nat) (hn : d.parts.length ≤ 1000000000) (ht : CellsAt w (some A) t.length (b8 t)) (ht0 : t ≠ []) (hoff : off + t.length ≤ 16777216)
    (hA : r.nv.ownBlock ≠ some A.block ∧ r.sv.ownBlock ≠ some A.block ∧ A.block ≠ r.p) (hAp : r.pv.ownBlock ≠ some A.block) :
    Calls Try.prog 36 #[.pointer (some ⟨r.p, 2, none⟩), .agg #[.int .i64 (off : Int), .slice (some A) t.length c]] w fun e w' => e = .returned (.tuple #[]) ∧
      ∃ pv', IsDisk w' { r with pv := pv', tx := r.tx ++ [(A, c)] } { d with parts := d.parts ++ [(off, t)] } ∧ Keep (fun k => k = r.p ∨ r.pv.ownBlock = some k) w w' ∧ (pv'.ownBlock = r.pv.ownBlock ∨ ∃ b, pv'.ownBlock = some b ∧ w.heap.size ≤ b) := by
  obtain ⟨A0, c0, A1, c1, A2, c2, e0, e1, e2, h0, h1, h2, h3, h4, h5, f0, f1, f2, f3, f4, f5⟩ := h.cells
  rw [← e2] at h2
  have hpne := h.p_ne
  refine (add_walk w r.p r.pv d.parts.length (pcs d.parts r.tx) off A t.length c h.prt h2 f2 (fun e => hpne.2.2 _ e rfl) hn).mono ?_
  rintro e w' ⟨rfl, pv', w1, rfl, hown, hk, hat⟩
  have hk1 : Keep (fun k => k = r.p ∨ r.pv.ownBlock = some k) w w1 := hk.mono (fun k h => .inr h)
  have hk2 : Keep (fun k => k = r.p) w1 (w1.setCell ⟨r.p, 2, none⟩ pv') := keep_set (Keep.refl _ _) _ _
  have hb1 : w1.heap[r.p]? = some (.cells #[r.nv, r.sv, r.pv, .int .i64 d.calls, .bool d.failing, .int .i64 d.left] 59 (0, 0)) := (hk.block r.p (blk_lt h.blk) (fun e => hpne.2.2 _ e rfl)).trans h.blk
  have hpt : ∀ (v : Value), (∃ n xs, w.ownsRow 0 5 1 v n xs) → ∀ b, v.ownBlock = some b → r.pv.ownBlock ≠ some b := by
    rintro v ⟨n, xs, hv⟩ b hb hb'
    obtain ⟨cur, hc⟩ := own_type hv hb
    obtain ⟨cur', hc'⟩ := own_type h.prt hb'
    rw [hc] at hc'
    injection hc' with hc'
    injection hc' with _ h2
    exact absurd h2 (by decide)
  refine ⟨rfl, pv', ?_, hk1.then (F' := fun k => k = r.p) hk2 (fun i hi => .inl (.inl hi)), hat⟩
  have hne : ∀ b, pv'.ownBlock = some b → b ≠ r.p := fun b hb => blk_own_ne hb1 hown hb (by decide)
  constructor
  · exact blk_set hb1 2 pv'
  · exact hk2.own (hk.own h.now (fun b hb => hpt _ ⟨_, _, h.now⟩ b hb)) (fun b hb => hpne.1 b hb)
  · exact hk2.own (hk.own h.syn (fun b hb => hpt _ ⟨_, _, h.syn⟩ b hb)) (fun b hb => hpne.2.1 b hb)
  · have := hk2.own hown hne
    rw [← pcs_append d.parts r.tx (off, t) (A, c) h.txl] at this
    simpa using this
  · simp [h.txl]
  · intro i hi
    simp only [List.length_append, List.length_cons, List.length_nil] at hi
    by_cases hlt : i < d.parts.length
    · have e1 : (r.tx ++ [(A, c)]).getD i dflA = r.tx.getD i dflA := by
        simp only [List.getD_eq_getElem?_getD]
        rw [List.getElem?_append_left (by rw [h.txl]; exact hlt)]
      have e2 : (d.parts ++ [(off, t)]).getD i (0, []) = d.parts.getD i (0, []) := by
        simp only [List.getD_eq_getElem?_getD]
        rw [List.getElem?_append_left hlt]
      have hm : r.tx.getD i dflA ∈ r.tx := getD_mem (by rw [h.txl]; exact hlt)
      show CellsAt _ (some ((r.tx ++ [(A, c)]).getD i dflA).1) _ _
      simp only [e1, e2]
      refine ((h.txt i hlt).keep hk (fun b hb => ?_)).keep hk2 (fun b hb => ?_)
      · have := Option.some.inj hb
        rw [← this]
        exact (h.sep3 _ hm)
      · have := Option.some.inj hb
        rw [← this]
        exact (h.sep2 _ hm).2.2
    · obtain rfl : i = d.parts.length := by omega
      have e1 : (r.tx ++ [(A, c)]).getD d.parts.length dflA = (A, c) := by
        rw [← h.txl]; simp
      have e2 : (d.parts ++ [(off, t)]).getD d.parts.length (0, []) = (off, t) := by simp
      show CellsAt _ (some ((r.tx ++ [(A, c)]).getD _ dflA).1) _ _
      simp only [e1, e2]
      refine (ht.keep hk (fun b hb => ?_)).keep hk2 (fun b hb => ?_)
      · have := Option.some.inj hb
        rw [← this]
        exact hAp
      · have := Option.some.inj hb
        rw [← this]
        exact hA.2.2
  · exact h.sep1
  · intro q hq
    rcases List.mem_append.1 hq with hq | hq
    · exact h.sep2 q hq
    · obtain rfl : q = (A, c) := by simpa using hq
      exact hA
  · intro q hq
    have hlt : q.1.block < w.heap.size := by
      rcases List.mem_append.1 hq with hq | hq
      · exact h.txt_lt q hq
      · obtain rfl : q = (A, c) := by simpa using hq
        obtain ⟨b, _, e, hb, _⟩ := ht.2.2 (List.length_pos_iff.2 ht0)
        have := Option.some.inj e
        rw [this]; exact hb
    rcases hat with hat | ⟨b, hat, hb⟩
    · show pv'.ownBlock ≠ _
      rw [hat]
      rcases List.mem_append.1 hq with hq | hq
      · exact h.sep3 q hq
      · obtain rfl : q = (A, c) := by simpa using hq
        exact hAp
    · show pv'.ownBlock ≠ _
      rw [hat]
      intro e
      have := Option.some.inj e
      omega
  · exact ⟨h.ok.calls, h.ok.now, h.ok.syn, fun p hp => by
      rcases List.mem_append.1 hp with hp | hp
      · exact h.ok.part p hp
      · obtain rfl : p = (off, t) := by simpa using hp
        exact ⟨hoff, ht0⟩, h.ok.left⟩
end Go.Proofs.Ytbmmcdnmbdoglaa
