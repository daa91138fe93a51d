/- A desk: a disk and its model. do. -/
import Derived.Test.YthhcnfbolhoeaaaR6
import Derived.Deep.RegionHeld3
namespace Go.Proofs.Ythhcnfbolhoeaaa
open Go.RowKit
set_option linter.unusedVariables false

structure Desk (n : Nat) (w : World) (q : Nat) (r : Rep) (ρ : RRep) (d : DS) : Prop where
  blk : w.heap[q]? = some (.cells #[.pointer (some ⟨r.p, 0, none⟩), .pointer (some ⟨ρ.p, 0, none⟩)] 30 (0, 0))
  disk : IsDisk w r d
  ref : IsRef w ρ d
  sep : ∀ k, r.foot k → ¬ ρ.foot k
  q1 : ¬ r.foot q
  q2 : ¬ ρ.foot q
  low : n ≤ q ∧ (∀ k, r.foot k → n ≤ k) ∧ (∀ k, ρ.foot k → n ≤ k)
def DK (n : Nat) (w : World) (q : Nat) (d : DS) : Prop := ∃ r ρ, Desk n w q r ρ d
theorem Desk.keep {n : Nat} {w w' : World} {q : Nat} {r : Rep} {ρ : RRep} {d : DS} {F : Nat → Prop} (h : Desk n w q r ρ d) (hk : Keep F w w') (hq : ¬ F q) (h1 : ∀ k, r.foot k → ¬ F k) (h2 : ∀ k, ρ.foot k → ¬ F k) : Desk n w' q r ρ d :=
  ⟨(hk.block q (blk_lt h.blk) hq).trans h.blk, h.disk.keep hk h1, h.ref.keep hk h2, h.sep, h.q1, h.q2, h.low⟩
theorem Desk.quiet {n : Nat} {w w' : World} {q : Nat} {r : Rep} {ρ : RRep} {d : DS} (h : Desk n w q r ρ d) (hk : Keep (fun _ => False) w w') : Desk n w' q r ρ d := h.keep hk id (fun _ _ => id) (fun _ _ => id)
theorem DK.since {n m : Nat} {w w' : World} {q : Nat} {d : DS} (h : DK n w q d) (hs : Since m w w') (hm : w.heap.size ≤ m) : DK n w' q d := by
  obtain ⟨r, ρ, hd⟩ := h
  refine ⟨r, ρ, hd.keep hs (fun h' => ?_) (fun k hk h' => ?_) (fun k hk h' => ?_)⟩
  · have := blk_lt hd.blk; omega
  · have := hd.disk.foot_lt k hk; omega
  · have := hd.ref.foot_lt k hk; omega
/-- Both have done a step. -/
theorem Desk.both {n : Nat} {w w1 w2 : World} {q : Nat} {r r' : Rep} {ρ ρ' : RRep} {d d' : DS} (h : Desk n w q r ρ d) (h1 : Step w r w1 r' d') (h2 : RStep w1 ρ w2 ρ' d') : Desk n w2 q r' ρ' d' := by
  have hs1 := h1.keep.size
  have hqlt := blk_lt h.blk
  have hx : ∀ k, r'.foot k → ¬ ρ.foot k := fun k hk hk' => by
    rcases h1.foot k hk with h3 | h3
    · exact h.sep k h3 hk'
    · have := h.ref.foot_lt k hk'; omega
  refine ⟨?_, h1.disk.keep h2.keep hx, h2.disk, ?_, ?_, ?_, h.low.1, ?_, ?_⟩
  · rw [h1.p, h2.p]
    have e1 := h1.keep.block q hqlt h.q1
    have e2 := h2.keep.block q (by omega) h.q2
    rw [e2, e1]
    exact h.blk
  · intro k hk hk'
    rcases h2.foot k hk' with h3 | h3
    · exact hx k hk h3
    · have := h1.disk.foot_lt k hk; omega
  · intro hk
    rcases h1.foot q hk with h3 | h3
    · exact h.q1 h3
    · omega
  · intro hk
    rcases h2.foot q hk with h3 | h3
    · exact h.q2 h3
    · omega
  · intro k hk
    rcases h1.foot k hk with h3 | h3
    · exact h.low.2.1 k h3
    · have := h.low.1; omega
  · intro k hk
    rcases h2.foot k hk with h3 | h3
    · exact h.low.2.2 k h3
    · have := h.low.1; omega
/-- The same, with worlds between that turn nothing. -/
theorem Desk.both' {n : Nat} {w w1 w1' w2 : World} {q : Nat} {r r' : Rep} {ρ ρ' : RRep} {d d' : DS} (h : Desk n w q r ρ d) (h1 : Step w r w1 r' d') (hk : Keep (fun _ => False) w1 w1') (h2 : RStep w1' ρ w2 ρ' d') : Desk n w2 q r' ρ' d' := h.both (h1.quiet hk) h2
theorem Desk.since {n : Nat} {w w1 w2 : World} {q : Nat} {r r' : Rep} {ρ ρ' : RRep} {d d' : DS} (h : Desk n w q r ρ d) (h1 : Step w r w1 r' d') (h2 : RStep w1 ρ w2 ρ' d') : Since n w w2 :=
  Keep.trans (Keep.mono h1.keep h.low.2.1) (Keep.mono h2.keep h.low.2.2)
theorem Desk.cells {n : Nat} {w : World} {q : Nat} {r : Rep} {ρ : RRep} {d : DS} (h : Desk n w q r ρ d) : w.cell? ⟨q, 0, none⟩ = some (.pointer (some ⟨r.p, 0, none⟩)) ∧ w.cell? ⟨q, 1, none⟩ = some (.pointer (some ⟨ρ.p, 0, none⟩)) := by
  constructor
  · rw [blk_cell h.blk]; rfl
  · rw [blk_cell h.blk]; rfl
theorem cell_keep {F : Nat → Prop} {w w' : World} (hk : Keep F w w') {a : Addr} {v : Value} (h : w.cell? a = some v) (hF : ¬ F a.block) : w'.cell? a = some v := (hk.cell (World.block_lt_of_cell? _ _ h) hF).trans h

theorem cell_two {F : Nat → Prop} {w w' : World} {q : Nat} {u v : Value} (hk : Keep F w w') (h : w.cell? ⟨q, 0, none⟩ = some u ∧ w.cell? ⟨q, 1, none⟩ = some v) (hF : ¬ F q) : w'.cell? ⟨q, 0, none⟩ = some u ∧ w'.cell? ⟨q, 1, none⟩ = some v :=
  ⟨cell_keep hk h.1 hF, cell_keep hk h.2 hF⟩
def DS.act (d : DS) (a : Act') : DS :=
  if a.kind % 8 = 4 then d.doSync.2 else if a.kind % 8 = 5 then d else if a.kind % 8 = 6 then d.fail (a.n % 9 - 1) else if a.kind % 8 = 7 then d.crash (survL a.n) else (d.doWrite a.where_ (bs a.long)).2

theorem act_cells {w : World} {b : Nat} {kd off nn : Int} {text : ByteArray} (h : w.heap[b]? = some (.cells #[.int .i64 kd, .int .i64 off, .int .i64 nn, .string text] 33 (0, 0))) :
    w.cell? ⟨b, 0, none⟩ = some (.int .i64 kd) ∧ w.cell? ⟨b, 1, none⟩ = some (.int .i64 off) ∧ w.cell? ⟨b, 2, none⟩ = some (.int .i64 nn) ∧ w.cell? ⟨b, 3, none⟩ = some (.string text) := by
  refine ⟨?_, ?_, ?_, ?_⟩ <;> (rw [blk_cell h]; rfl)
theorem cells_six {w : World} {q b : Nat} {u v : Value} {kd off nn : Int} {text : ByteArray} (h : w.cell? ⟨q, 0, none⟩ = some u ∧ w.cell? ⟨q, 1, none⟩ = some v) (h' : w.cell? ⟨b, 0, none⟩ = some (.int .i64 kd) ∧ w.cell? ⟨b, 1, none⟩ = some (.int .i64 off) ∧ w.cell? ⟨b, 2, none⟩ = some (.int .i64 nn) ∧ w.cell? ⟨b, 3, none⟩ = some (.string text)) :
    w.drew.cell? ⟨q, 0, none⟩ = some u ∧ w.drew.cell? ⟨q, 1, none⟩ = some v ∧ w.drew.cell? ⟨b, 0, none⟩ = some (.int .i64 kd) ∧ w.drew.cell? ⟨b, 1, none⟩ = some (.int .i64 off) ∧ w.drew.cell? ⟨b, 2, none⟩ = some (.int .i64 nn) ∧ w.drew.cell? ⟨b, 3, none⟩ = some (.string text) :=
  ⟨h.1, h.2, h'.1, h'.2.1, h'.2.2.1, h'.2.2.2⟩
theorem six_keep {F : Nat → Prop} {w w' : World} {q b : Nat} {u v x0 x1 x2 x3 : Value} (hk : Keep F w w')
    (h : w.cell? ⟨q, 0, none⟩ = some u ∧ w.cell? ⟨q, 1, none⟩ = some v ∧ w.cell? ⟨b, 0, none⟩ = some x0 ∧ w.cell? ⟨b, 1, none⟩ = some x1 ∧ w.cell? ⟨b, 2, none⟩ = some x2 ∧ w.cell? ⟨b, 3, none⟩ = some x3) (hq : ¬ F q) (hb : ¬ F b) :
    w'.cell? ⟨q, 0, none⟩ = some u ∧ w'.cell? ⟨q, 1, none⟩ = some v ∧ w'.cell? ⟨b, 0, none⟩ = some x0 ∧ w'.cell? ⟨b, 1, none⟩ = some x1 ∧ w'.cell? ⟨b, 2, none⟩ = some x2 ∧ w'.cell? ⟨b, 3, none⟩ = some x3 :=
  ⟨cell_keep hk h.1 hq, cell_keep hk h.2.1 hq, cell_keep hk h.2.2.1 hb, cell_keep hk h.2.2.2.1 hb, cell_keep hk h.2.2.2.2.1 hb, cell_keep hk h.2.2.2.2.2 hb⟩
theorem where_in {a : Act'} (h : a.Ok) : i64In a.where_ := by
  have := h.off
  unfold Act'.where_ i64In at *
  split <;> omega

set_option maxHeartbeats 4000000 in
set_option maxRecDepth 100000 in
theorem do_sync {n : Nat} {w : World} {q : Nat} {r : Rep} {ρ : RRep} {d : DS} (h : Desk n w q r ρ d) (hf : d.few 100000000) (a : Act') (ha : a.Ok) (hk : a.kind % 8 = 4) :
    Calls Try.prog 16 #[.pointer (some ⟨q, 0, none⟩), .agg #[.int .i64 a.kind, .int .i64 a.off, .int .i64 a.n, .string a.text]] w fun e w' => e = .returned (.bool true) ∧ DK n w' q (d.doSync.2) ∧ Since n w w' := by
  have ha' := ha
  have hx : ∃ X, X = d.doSync.2 := ⟨_, rfl⟩
  obtain ⟨X, hX⟩ := hx
  rw [← hX]
  obtain ⟨kd, off, nn, text⟩ := a
  have hkd := ha.kind
  have hnn := ha.n
  simp only [i64In] at hkd hnn hk
  have M := fun w => Lib.hid (hk ▸ mod_any w kd 8 (by decide) (by decide) hkd)
  have hs0 : Keep (fun _ => False) w (w.alloc (.cells #[.int .i64 kd, .int .i64 off, .int .i64 nn, .string text] 33)) := (Keep.refl _ w).alloc' _
  have hd0 := h.quiet hs0
  have hblt : ∀ k, w.heap.size = k → ¬ r.foot k ∧ ¬ ρ.foot k ∧ k ≠ q := by
    rintro k rfl
    exact ⟨fun e => Nat.lt_irrefl _ (h.disk.foot_lt _ e), fun e => Nat.lt_irrefl _ (h.ref.foot_lt _ e), fun e => by have := blk_lt h.blk; omega⟩
  have hbx := hblt _ rfl
  have ha0 : (w.alloc (.cells #[.int .i64 kd, .int .i64 off, .int .i64 nn, .string text] 33)).heap[w.heap.size]? = some (.cells #[.int .i64 kd, .int .i64 off, .int .i64 nn, .string text] 33 (0, 0)) := heap_alloc_new _ _
  have H := Lib.hid h
  have HF := Lib.hid hf
  have HX := Lib.hid hX
  have HBX := Lib.hid hbx
  have HA := Lib.hid ha'
  clear hk ha h hf hblt hbx hX ha'
  go_enter Try.func16, Try.ntmps16
  go_wp2_with fail
  refine (M _).out.mono ?_
  rintro e wx ⟨rfl, rfl⟩
  obtain ⟨wa, hwa⟩ : ∃ wa, w.alloc (.cells #[.int .i64 kd, .int .i64 off, .int .i64 nn, .string text] 33) = wa := ⟨_, rfl⟩
  rw [hwa] at hs0 hd0 ha0 ⊢
  have HD := Lib.hid hd0
  have HS := Lib.hid hs0
  have KC := Lib.hid hd0.cells
  have KA := Lib.hid (act_cells ha0)
  clear hwa hs0 hd0 ha0
  go_wp2_with fail
  go_region_held3 (fun w' => w'.cell? ⟨q, 0, none⟩ = some (.pointer (some ⟨r.p, 0, none⟩)) ∧ w'.cell? ⟨q, 1, none⟩ = some (.pointer (some ⟨ρ.p, 0, none⟩))) (first | exact KC.out)
    (first
      | (go_at_call 28; refine (sync_step (HD.out.disk.keep (keep_draw (fun _ => False) wa) (fun _ _ => id)) HF.out).mono ?_; rintro e w1 ⟨rfl, r', hst⟩; have HST := Lib.hid hst; replace KC := Lib.hid (cell_two hst.keep KC.out HD.out.q1); clear hst)
      | (go_at_call 33; refine (rsync_step (HD.out.ref.keep (Keep.trans (Keep.mono (keep_draw (fun _ => False) wa) (fun _ => False.elim)) HST.out.keep) (fun k hk hk' => HD.out.sep k hk' hk)) HF.out).mono ?_; rintro e w2 ⟨rfl, ρ', hrst⟩; have HRST := Lib.hid hrst; replace KC := Lib.hid (cell_two hrst.keep KC.out HD.out.q2); clear hrst))
  all_goals go_wp2_with fail
  all_goals go_ret
  all_goals (
    have hdk := HD.out.quiet (keep_draw (fun _ => False) wa)
    exact ⟨rfl, HX.out ▸ ⟨_, _, hdk.both HST.out HRST.out⟩, Keep.trans (Since.of (Keep.trans HS.out (keep_draw _ wa))) (hdk.since HST.out HRST.out)⟩)

set_option maxHeartbeats 4000000 in
set_option maxRecDepth 100000 in
theorem do_fail {n : Nat} {w : World} {q : Nat} {r : Rep} {ρ : RRep} {d : DS} (h : Desk n w q r ρ d) (hf : d.few 100000000) (a : Act') (ha : a.Ok) (hk : a.kind % 8 = 6) :
    Calls Try.prog 16 #[.pointer (some ⟨q, 0, none⟩), .agg #[.int .i64 a.kind, .int .i64 a.off, .int .i64 a.n, .string a.text]] w fun e w' => e = .returned (.bool true) ∧ DK n w' q (d.fail (a.n % 9 - 1)) ∧ Since n w w' := by
  have ha' := ha
  have hx : ∃ X, X = d.fail (a.n % 9 - 1) := ⟨_, rfl⟩
  obtain ⟨X, hX⟩ := hx
  rw [← hX]
  obtain ⟨kd, off, nn, text⟩ := a
  have hkd := ha.kind
  have hnn := ha.n
  simp only [i64In] at hkd hnn hk
  have M := fun w => Lib.hid (hk ▸ mod_any w kd 8 (by decide) (by decide) hkd)
  have hs0 : Keep (fun _ => False) w (w.alloc (.cells #[.int .i64 kd, .int .i64 off, .int .i64 nn, .string text] 33)) := (Keep.refl _ w).alloc' _
  have hd0 := h.quiet hs0
  have hblt : ∀ k, w.heap.size = k → ¬ r.foot k ∧ ¬ ρ.foot k ∧ k ≠ q := by
    rintro k rfl
    exact ⟨fun e => Nat.lt_irrefl _ (h.disk.foot_lt _ e), fun e => Nat.lt_irrefl _ (h.ref.foot_lt _ e), fun e => by have := blk_lt h.blk; omega⟩
  have hbx := hblt _ rfl
  have ha0 : (w.alloc (.cells #[.int .i64 kd, .int .i64 off, .int .i64 nn, .string text] 33)).heap[w.heap.size]? = some (.cells #[.int .i64 kd, .int .i64 off, .int .i64 nn, .string text] 33 (0, 0)) := heap_alloc_new _ _
  have H := Lib.hid h
  have HF := Lib.hid hf
  have HX := Lib.hid hX
  have HBX := Lib.hid hbx
  have HA := Lib.hid ha'
  clear hk ha h hf hblt hbx hX ha'
  go_enter Try.func16, Try.ntmps16
  go_wp2_with fail
  refine (M _).out.mono ?_
  rintro e wx ⟨rfl, rfl⟩
  obtain ⟨wa, hwa⟩ : ∃ wa, w.alloc (.cells #[.int .i64 kd, .int .i64 off, .int .i64 nn, .string text] 33) = wa := ⟨_, rfl⟩
  rw [hwa] at hs0 hd0 ha0 ⊢
  have HD := Lib.hid hd0
  have HS := Lib.hid hs0
  have KC := Lib.hid hd0.cells
  have KA := Lib.hid (act_cells ha0)
  clear hwa hs0 hd0 ha0
  have M9 := fun w => mod_any w nn 9 (by decide) (by decide) hnn
  obtain ⟨v, hv⟩ : ∃ v, nn % 9 = v := ⟨_, rfl⟩
  rw [hv] at M9
  have hv1 : 0 ≤ v ∧ v < 9 := by omega
  have KA2 := KA.out.2.2.1
  have KC0 := KC.out.1
  have KC1 := KC.out.2
  have HV := Lib.hid hv
  have M9' := fun w => Lib.hid (M9 w)
  clear hv M9
  go_wp2_with fail
  refine (M9' _).out.mono ?_
  rintro e wx ⟨rfl, rfl⟩
  go_wp2_with fail
  refine (fail_step HD.out.disk (v - 1) (by omega)).mono ?_
  rintro e w1 ⟨rfl, r', hst⟩
  have HST := Lib.hid hst
  have KC1' := (cell_two hst.keep KC.out HD.out.q1).2
  clear hst KC0 KC1 KA2
  go_wp2_with fail
  refine (fail_ref (HD.out.ref.keep HST.out.keep (fun k hk hk' => HD.out.sep k hk' hk)) (v - 1) (by omega)).mono ?_
  rintro e w2 ⟨rfl, hrst⟩
  have HRST := Lib.hid hrst
  clear hrst KC1'
  go_wp2_with fail
  go_ret
  refine ⟨rfl, ?_, Keep.trans (Since.of HS.out) (HD.out.since HST.out HRST.out)⟩
  have hX := HX.out
  simp only [HV.out] at hX
  rw [hX]
  exact ⟨_, _, HD.out.both HST.out HRST.out⟩
end Go.Proofs.Ythhcnfbolhoeaaa
