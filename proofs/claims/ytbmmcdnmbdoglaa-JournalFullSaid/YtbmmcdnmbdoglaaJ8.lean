/- Append. -/
import Derived.Test.YtbmmcdnmbdoglaaJ7
import Derived.StillTailTactics
import Derived.IntWalk
namespace Go.Proofs.Ytbmmcdnmbdoglaa
open Go.RowKit
set_option linter.unusedVariables false

/-- What Append comes to. -/
def appendJ (d : DS) (j : JS) (x : Bytes) : Int × DS × JS :=
  if j.broken then (70, d, j)
  else if 16777216 < j.bytes + x.length + 16 + 256 then (2, d, j)
  else if (stepsJ d j.stop x (j.stop + 4 + x.length)).1 = 0 then (0, (stepsJ d j.stop x (j.stop + 4 + x.length)).2, ⟨j.many + 1, j.bytes + x.length + 16, j.stop + 4 + x.length, false⟩)
  else ((stepsJ d j.stop x (j.stop + 4 + x.length)).1, (stepsJ d j.stop x (j.stop + 4 + x.length)).2, { j with broken := true })
def AppendEnd (w0 : World) (r0 : Rep) (jp : Nat) (X : Int × DS × JS) (e : Ending) (w' : World) : Prop :=
  e = .returned (.int .i64 X.1) ∧ ∃ r', r'.p = r0.p ∧ JD w' jp r' X.2.1 X.2.2 ∧ Keep (fun i => r0.foot i ∨ i = jp) w0 w' ∧ ∀ i, r'.foot i → r0.foot i ∨ w0.heap.size ≤ i
theorem JD.keep {w w' : World} {jp : Nat} {r : Rep} {d : DS} {j : JS} {F : Nat → Prop} (h : JD w jp r d j) (hk : Keep F w w') (h1 : ∀ i, r.foot i → ¬ F i) (h2 : ¬ F jp) : JD w' jp r d j :=
  ⟨(hk.block _ (blk_lt h.blk) h2).trans h.blk, h.disk.keep hk h1, h.q⟩

set_option maxHeartbeats 1000000 in
set_option maxRecDepth 100000 in
theorem append_broken {w : World} {jp : Nat} {r : Rep} {d : DS} {j : JS} (h : JD w jp r d j) (hb : j.broken = true) (x : ByteArray) :
    Calls Try.prog 14 #[.pointer (some ⟨jp, 0, none⟩), .string x] w fun e w' => e = .returned (.int .i64 70) ∧ Keep (fun _ => False) w w' := by
  obtain ⟨c0, c1, c2, c3, c4⟩ := h.cells
  rw [hb] at c4
  have hjl : jp < w.heap.size := blk_lt h.blk
  have hq : ∀ o1 o2, ((w.alloc o1).alloc o2).cell? ⟨jp, 0, none⟩ = some (.pointer (some ⟨r.p, 0, none⟩)) ∧ ((w.alloc o1).alloc o2).cell? ⟨jp, 4, none⟩ = some (.bool true) := fun o1 o2 =>
    have hk : Keep (fun _ => False) w ((w.alloc o1).alloc o2) := ((Keep.refl _ w).alloc' _).alloc' _
    ⟨cell_kept hk c0 id, cell_kept hk c4 id⟩
  have q1 := fun o1 o2 => (hq o1 o2).1
  have q2 := fun o1 o2 => (hq o1 o2).2
  have HK := Lib.hid (fun o1 o2 => ((Keep.refl (fun _ => False) w).alloc' o1).alloc' o2)
  clear h hb hq c0 c1 c2 c3 c4
  go_enter Try.func14, Try.ntmps14
  go_wp2_with fail
  go_ret
  exact ⟨rfl, HK.out _ _⟩

def boxed (w : World) (jp : Nat) (x : ByteArray) : World := (w.alloc (.cells #[.pointer (some ⟨jp, 0, none⟩)] 27)).alloc (.cells #[.string x] 9)
theorem boxed_keep (w : World) (jp : Nat) (x : ByteArray) : Keep (fun _ => False) w (boxed w jp x) := ((Keep.refl _ w).alloc' _).alloc' _
theorem boxed_size (w : World) (jp : Nat) (x : ByteArray) : (boxed w jp x).heap.size = w.heap.size + 2 := by simp [boxed]
theorem boxed_blk (w : World) (jp : Nat) (x : ByteArray) : (boxed w jp x).heap[w.heap.size]? = some (.cells #[.pointer (some ⟨jp, 0, none⟩)] 27 (0, 0)) ∧ (boxed w jp x).heap[w.heap.size + 1]? = some (.cells #[.string x] 9 (0, 0)) :=
  ⟨alloc_old (alloc_at rfl), alloc_at (by simp)⟩

set_option maxHeartbeats 1000000 in
set_option maxRecDepth 100000 in
theorem append_many {w : World} {jp : Nat} {r : Rep} {d : DS} {j : JS} (h : JD w jp r d j) (hb : j.broken = false) (x : ByteArray) (hm : 16777216 < j.bytes + x.size + 16 + 256) (hx : x.size ≤ 140737488351232) (hj : j.bytes ≤ 140737488351232) :
    Calls Try.prog 14 #[.pointer (some ⟨jp, 0, none⟩), .string x] w fun e w' => e = .returned (.int .i64 2) ∧ Keep (fun _ => False) w w' := by
  have hk := boxed_keep w jp x
  have h' := h.keep hk (fun _ _ => id) id
  obtain ⟨c0, c1, c2, c3, c4⟩ := h'.cells
  obtain ⟨g0, g1⟩ := boxed_blk w jp x
  have k0 : (boxed w jp x).cell? ⟨w.heap.size, 0, none⟩ = some (.pointer (some ⟨jp, 0, none⟩)) := by rw [blk_cell g0]; rfl
  have k1 : (boxed w jp x).cell? ⟨w.heap.size + 1, 0, none⟩ = some (.string x) := by rw [blk_cell g1]; rfl
  rw [hb] at c4
  have b1 : decide (16777216 < (j.bytes : Int) + (x.size : Int) + 16 + 256) = true := by simp; omega
  have HK := Lib.hid hk
  have q1 : ∀ o1 o2, ((w.alloc o1).alloc o2).cell? ⟨jp, 0, none⟩ = some (.pointer (some ⟨r.p, 0, none⟩)) := fun o1 o2 => cell_kept (((Keep.refl (fun _ => False) w).alloc' o1).alloc' o2) h.cells.1 id
  have q2 : ∀ o1 o2, ((w.alloc o1).alloc o2).cell? ⟨jp, 4, none⟩ = some (.bool false) := fun o1 o2 => by rw [← hb]; exact cell_kept (((Keep.refl (fun _ => False) w).alloc' o1).alloc' o2) h.cells.2.2.2.2 id
  clear h hb hm hk h' g0 g1
  go_enter Try.func14, Try.ntmps14
  go_wp2_with fail
  change Code.wp Try.prog _ _ _ (boxed w jp x)
  go_region
  all_goals go_wp2_with fail
  all_goals go_ret
  all_goals exact ⟨rfl, Keep.trans HK.out (keep_draw _ _)⟩

/-- The world at the call of steps. -/
def callw (w : World) (jp : Nat) (x : ByteArray) (next : Int) : World :=
  ((((boxed w jp x).alloc (.cells #[.int .i64 next] 3)).alloc (.cells #[.func (.func 30) #[] #[.pointer (some ⟨w.heap.size, 0, none⟩), .pointer (some ⟨w.heap.size + 1, 0, none⟩)], .func (.func 32) #[] #[.pointer (some ⟨w.heap.size, 0, none⟩), .pointer (some ⟨w.heap.size + 1 + 1, 0, none⟩)]] 49)).drew).drew
theorem callw_keep (w : World) (jp : Nat) (x : ByteArray) (next : Int) : Keep (fun _ => False) w (callw w jp x next) := Keep.trans (Keep.trans (((boxed_keep w jp x).alloc' _).alloc' _) (keep_draw _ _)) (keep_draw _ _)
theorem callw_blk (w : World) (jp : Nat) (x : ByteArray) (next : Int) :
    (callw w jp x next).heap[w.heap.size]? = some (.cells #[.pointer (some ⟨jp, 0, none⟩)] 27 (0, 0)) ∧ (callw w jp x next).heap[w.heap.size + 1]? = some (.cells #[.string x] 9 (0, 0)) ∧ (callw w jp x next).heap[w.heap.size + 1 + 1]? = some (.cells #[.int .i64 next] 3 (0, 0)) ∧
    (callw w jp x next).heap[w.heap.size + 1 + 1 + 1]? = some (.cells #[.func (.func 30) #[] #[.pointer (some ⟨w.heap.size, 0, none⟩), .pointer (some ⟨w.heap.size + 1, 0, none⟩)], .func (.func 32) #[] #[.pointer (some ⟨w.heap.size, 0, none⟩), .pointer (some ⟨w.heap.size + 1 + 1, 0, none⟩)]] 49 (0, 0)) :=
  ⟨alloc_old (alloc_old (boxed_blk w jp x).1), alloc_old (alloc_old (boxed_blk w jp x).2), alloc_old (alloc_at (by rw [boxed_size])), alloc_at (by simp [boxed_size])⟩

set_option maxHeartbeats 2000000 in
set_option maxRecDepth 100000 in
theorem append_go {w : World} {jp : Nat} {r : Rep} {d : DS} {j : JS} (h : JD w jp r d j) (hb : j.broken = false) (x : ByteArray) (hm : ¬ 16777216 < j.bytes + x.size + 16 + 256) (hs : 64 ≤ j.stop) (hs2 : j.stop ≤ 16777216 + 64) (hn : j.many ≤ 1000000000) (hf : d.few 80000000) :
    Calls Try.prog 14 #[.pointer (some ⟨jp, 0, none⟩), .string x] w (AppendEnd w r jp (appendJ d j (bs x))) := by
  have hk := boxed_keep w jp x
  have h' := h.keep hk (fun _ _ => id) id
  obtain ⟨c0, c1, c2, c3, c4⟩ := h'.cells
  obtain ⟨g0, g1⟩ := boxed_blk w jp x
  have k0 : (boxed w jp x).cell? ⟨w.heap.size, 0, none⟩ = some (.pointer (some ⟨jp, 0, none⟩)) := by rw [blk_cell g0]; rfl
  have k1 : (boxed w jp x).cell? ⟨w.heap.size + 1, 0, none⟩ = some (.string x) := by rw [blk_cell g1]; rfl
  rw [hb] at c4
  have hjb : j.bytes + x.size ≤ 16777216 := by omega
  have b1 : decide (16777216 < (j.bytes : Int) + (x.size : Int) + 16 + 256) = false := by simp; omega
  have HM := Lib.hid (And.intro hm hb)
  have q1 : ∀ o1 o2, ((w.alloc o1).alloc o2).cell? ⟨jp, 0, none⟩ = some (.pointer (some ⟨r.p, 0, none⟩)) := fun o1 o2 => cell_kept (((Keep.refl (fun _ => False) w).alloc' o1).alloc' o2) h.cells.1 id
  have q2 : ∀ o1 o2, ((w.alloc o1).alloc o2).cell? ⟨jp, 4, none⟩ = some (.bool false) := fun o1 o2 => by rw [← hb]; exact cell_kept (((Keep.refl (fun _ => False) w).alloc' o1).alloc' o2) h.cells.2.2.2.2 id
  obtain ⟨next, hnext⟩ : ∃ next, j.stop + 4 + x.size = next := ⟨_, rfl⟩
  have hnb : 64 ≤ next ∧ next ≤ 33554432 := by omega
  have hst := steps_any (w := callw w jp x (next : Int)) (k := ⟨w.heap.size + 1 + 1 + 1, w.heap.size, w.heap.size + 1, w.heap.size + 1 + 1, x, next⟩) (h.keep (callw_keep w jp x next) (fun _ _ => id) id) hb hf (by show x.size ≤ _; omega) (by omega) hnb.1 hnb.2
    (by rw [blk_cell (callw_blk w jp x next).2.2.2]; rfl) (by rw [blk_cell (callw_blk w jp x next).2.2.2]; rfl) (by rw [blk_cell (callw_blk w jp x next).1]; rfl) (by rw [blk_cell (callw_blk w jp x next).2.1]; rfl) (by rw [blk_cell (callw_blk w jp x next).2.2.1]; rfl)
    ⟨fun hk => by have := h.disk.foot_lt _ hk; simp only at this; omega, fun hk => by have := h.disk.foot_lt _ hk; simp only at this; omega, fun hk => by have := h.disk.foot_lt _ hk; simp only at this; omega, fun hk => by have := h.disk.foot_lt _ hk; simp only at this; omega⟩
  simp only at hst
  have HST := Lib.hid hst
  have HN := Lib.hid (show (j.stop : Int) + 4 + (x.size : Int) = (next : Int) by omega)
  have HNX := Lib.hid hnext
  have hmf := mk_func
  have HH := Lib.hid h
  clear h hb hm hk h' g0 g1 hst hnext hf
  go_enter Try.func14, Try.ntmps14
  go_wp2_with fail
  change Code.wp Try.prog _ _ _ (boxed w jp x)
  go_region
  all_goals go_wp2_with fail
  obtain ⟨wd, hwd⟩ : ∃ wd, (boxed w jp x).drew = wd := ⟨_, rfl⟩
  have HWD := Lib.hid hwd
  have d0 : wd.cell? ⟨w.heap.size, 0, none⟩ = some (.pointer (some ⟨jp, 0, none⟩)) := hwd ▸ k0
  have d1 : wd.cell? ⟨w.heap.size + 1, 0, none⟩ = some (.string x) := hwd ▸ k1
  have d3 : wd.cell? ⟨jp, 3, none⟩ = some (.int .i64 (j.stop : Int)) := hwd ▸ c3
  rw [hwd]
  clear hwd k0 k1 c0 c1 c2 c3 c4 q1 q2
  have hbs : wd.heap.size = w.heap.size + 1 + 1 := HWD.out ▸ boxed_size w jp x
  have n0 := World.new_ne wd _ d0
  have n1 := World.new_ne wd _ d1
  have n3 := World.new_ne wd _ d3
  have s4 : IntKind.i64.wrap ((j.stop : Int) + 4) = (j.stop : Int) + 4 := IntWalk.i64_in _ (by omega)
  have s5 : IntKind.i64.wrap ((j.stop : Int) + 4 + (x.size : Int)) = (next : Int) := by rw [HN.out]; exact IntWalk.i64_in _ (by omega)
  go_region_held3 (fun w' => w'.cell? ⟨w.heap.size, 0, none⟩ = some (.pointer (some ⟨jp, 0, none⟩)) ∧ w'.cell? ⟨w.heap.size + 1, 0, none⟩ = some (.string x) ∧ w'.cell? ⟨jp, 3, none⟩ = some (.int .i64 (j.stop : Int))) (go_keep) (fail)
  all_goals clear n0 n1 n3 s4 s5
  go_wp2_with fail
  rw [← HWD.out]
  change Calls Try.prog _ _ (callw w jp x (next : Int)) _
  clear d0 d1 d3 hbs HWD
  have HX := Lib.hid (show appendJ d j (bs x) = if (stepsJ d j.stop (bs x) next).1 = 0 then (0, (stepsJ d j.stop (bs x) next).2, ⟨j.many + 1, j.bytes + x.size + 16, next, false⟩) else ((stepsJ d j.stop (bs x) next).1, (stepsJ d j.stop (bs x) next).2, { j with broken := true }) by
    unfold appendJ
    rw [HM.out.2, bs_length, if_neg (by simp), if_neg HM.out.1, HNX.out])
  refine HST.out.mono ?_
  obtain ⟨X, hX⟩ : ∃ X, stepsJ d j.stop (bs x) next = X := ⟨_, rfl⟩
  rw [hX] at HX ⊢
  clear hX HST
  obtain ⟨X1, d5⟩ := X
  rintro e w5 ⟨rfl, r5, hp5, hjd5, hk5, hft5⟩
  simp only at hjd5 HX
  have HK0 := Lib.hid (callw_keep w jp x (next : Int))
  have hjl : jp < w.heap.size := blk_lt HH.out.blk
  have hrl := HH.out.disk.foot_lt
  have hne : ∀ b, w.heap.size ≤ b → ¬ (r.foot b ∨ b = jp) := fun b hb h' => by
    rcases h' with h' | h'
    · have := hrl b h'; omega
    · omega
  have k0 : w5.cell? ⟨w.heap.size, 0, none⟩ = some (.pointer (some ⟨jp, 0, none⟩)) := cell_kept hk5 (by rw [blk_cell (callw_blk w jp x (next : Int)).1]; rfl) (hne _ (Nat.le_refl _))
  have k1 : w5.cell? ⟨w.heap.size + 1, 0, none⟩ = some (.string x) := cell_kept hk5 (by rw [blk_cell (callw_blk w jp x (next : Int)).2.1]; rfl) (hne _ (by show w.heap.size ≤ w.heap.size + 1; omega))
  have k2 : w5.cell? ⟨w.heap.size + 1 + 1, 0, none⟩ = some (.int .i64 (next : Int)) := cell_kept hk5 (by rw [blk_cell (callw_blk w jp x (next : Int)).2.2.1]; rfl) (hne _ (by show w.heap.size ≤ w.heap.size + 1 + 1; omega))
  have hkk : Keep (fun i => r.foot i ∨ i = jp) w w5 := (Keep.mono HK0.out (fun _ => False.elim)).then hk5 (fun i hi => .inl hi)
  have hft : ∀ i, r5.foot i → r.foot i ∨ w.heap.size ≤ i := fun i hi => by
    rcases hft5 i hi with h1 | h1
    · exact .inl h1
    · exact .inr (Nat.le_trans HK0.out.size h1)
  obtain ⟨c0, c1, c2, c3, c4⟩ := hjd5.cells
  have f1 := blk_free hjd5.blk 1
  have f2 := blk_free hjd5.blk 2
  have f3 := blk_free hjd5.blk 3
  have HJD := Lib.hid hjd5
  have HKK := Lib.hid hkk
  have HFT := Lib.hid hft
  have HP5 := Lib.hid hp5
  clear hjd5 hkk hft hft5 hp5 hk5 hrl hne c0 c4
  simp only at c1 c2 c3
  by_cases h0 : X1 = 0
  · subst h0
    rw [if_pos rfl] at HX
    have hj1 : ¬ w.heap.size = jp := by omega
    have hj2 : ¬ w.heap.size + 1 = jp := by omega
    have hj3 : ¬ w.heap.size + 1 + 1 = jp := by omega
    go_wp2_with fail
    go_region
    all_goals go_wp2_with fail
    all_goals go_ret
    all_goals (
      have hbl := blk_set (blk_set (blk_set HJD.out.blk 1 (.int .i64 ((j.many : Int) + 1))) 2 (.int .i64 ((j.bytes : Int) + ((x.size : Int) + 16)))) 3 (.int .i64 (next : Int))
      have hk3 : Keep (fun i => i = jp) w5 (((w5.setCell ⟨jp, 1, none⟩ (.int .i64 ((j.many : Int) + 1))).setCell ⟨jp, 2, none⟩ (.int .i64 ((j.bytes : Int) + ((x.size : Int) + 16)))).setCell ⟨jp, 3, none⟩ (.int .i64 (next : Int))).drew :=
        Keep.trans ((((Keep.refl (fun i => i = jp) w5).setCell (a := ⟨jp, 1, none⟩) (.inl rfl) _).setCell (a := ⟨jp, 2, none⟩) (.inl rfl) _).setCell (a := ⟨jp, 3, none⟩) (.inl rfl) _) (keep_draw _ _)
      rw [HX.out]
      refine ⟨rfl, r5, HP5.out, ⟨?_, HJD.out.disk.keep hk3 (fun i hi h' => HJD.out.q (h' ▸ hi)), HJD.out.q⟩, Keep.trans HKK.out (Keep.mono hk3 (fun i hi => .inr hi)), HFT.out⟩
      refine hbl.trans ?_
      show some (Obj.cells #[_, .int .i64 ((j.many : Int) + 1), .int .i64 ((j.bytes : Int) + ((x.size : Int) + 16)), .int .i64 (next : Int), .bool (0 != 0)] 52 (0, 0)) = some (Obj.cells #[_, .int .i64 ((j.many + 1 : Nat) : Int), .int .i64 ((j.bytes + x.size + 16 : Nat) : Int), .int .i64 (next : Int), .bool false] 52 (0, 0))
      rw [show ((j.bytes + x.size + 16 : Nat) : Int) = (j.bytes : Int) + ((x.size : Int) + 16) by omega, show ((j.many + 1 : Nat) : Int) = (j.many : Int) + 1 by omega]
      rfl)
  · rw [if_neg h0] at HX
    have b1 : (X1 == 0) = false := by simpa using h0
    have b2 : (X1 != 0) = true := by simpa using h0
    go_wp2_with fail
    go_ret
    have hb : (X1 != 0) = true := by simpa using h0
    rw [HX.out]
    exact ⟨rfl, r5, HP5.out, by rw [← hb]; exact HJD.out, HKK.out, HFT.out⟩

/-- Append, whatever the journal. -/
theorem append_any {w : World} {jp : Nat} {r : Rep} {d : DS} {j : JS} (h : JD w jp r d j) (x : ByteArray) (hx : x.size ≤ 140737488351232) (hs : 64 ≤ j.stop) (hs2 : j.stop ≤ 16777216 + 64) (hn : j.many ≤ 1000000000) (hjb : j.bytes ≤ 140737488351232) (hf : d.few 80000000) :
    Calls Try.prog 14 #[.pointer (some ⟨jp, 0, none⟩), .string x] w (AppendEnd w r jp (appendJ d j (bs x))) := by
  cases hb : j.broken with
  | true =>
    have e : appendJ d j (bs x) = (70, d, j) := by unfold appendJ; rw [hb, if_pos rfl]
    rw [e]
    refine (append_broken h hb x).mono ?_
    rintro e w' ⟨rfl, hk⟩
    exact ⟨rfl, r, rfl, h.keep hk (fun _ _ => id) id, Keep.mono hk (fun _ => False.elim), fun i hi => .inl hi⟩
  | false =>
    by_cases hm : 16777216 < j.bytes + x.size + 16 + 256
    · have e : appendJ d j (bs x) = (2, d, j) := by unfold appendJ; rw [hb, bs_length, if_neg (by simp), if_pos hm]
      rw [e]
      refine (append_many h hb x hm hx hjb).mono ?_
      rintro e w' ⟨rfl, hk⟩
      exact ⟨rfl, r, rfl, h.keep hk (fun _ _ => id) id, Keep.mono hk (fun _ => False.elim), fun i hi => .inl hi⟩
    · exact append_go h hb x hm hs hs2 hn hf
theorem many_any {w : World} {jp : Nat} {r : Rep} {d : DS} {j : JS} (h : JD w jp r d j) : Calls Try.prog 17 #[.pointer (some ⟨jp, 0, none⟩)] w fun e w' => e = .returned (.int .i64 (j.many : Int)) ∧ w = w' := by
  obtain ⟨c0, c1, c2, c3, c4⟩ := h.cells
  clear h c0 c2 c3 c4
  go_enter Try.func17, Try.ntmps17
  go_wp2_with fail
  go_ret
  exact ⟨rfl, rfl⟩
end Go.Proofs.Ytbmmcdnmbdoglaa
