/- Append during which the power may fail; the reference journal's Append without power. -/
import Derived.Test.YtbmmcdnmbdoglaaJ15
import Derived.Test.YtbmmcdnmbdoglaaJQ
import Derived.Deep.DeepCutAuto
namespace Go.Proofs.Ytbmmcdnmbdoglaa
open Go.RowKit
set_option linter.unusedVariables false

theorem append_F {n : Nat} {X : Nat → Prop} {w : World} {jp p : Nat} {d : DS} {j : JS} {l : List Bytes} (h : JX n X w jp p d j) (hg : Good d j l) (hp : d.failing = true) {k : Nat} (hk : d.left = (k : Int)) (x : ByteArray) (hx : bytesOf l + x.size + 16 + 256 ≤ 16777216) {C : Nat} (hc : d.calls ≤ C) (hC : C ≤ 80000000) :
    Calls Try.prog 14 #[.pointer (some ⟨jp, 0, none⟩), .string x] w fun e w' => KX n X w w' ∧ ∃ d', d'.calls ≤ ((C + 4 : Nat) : Int) ∧
      ((e = .returned (.int .i64 0) ∧ ∃ j', JX n X w' jp p d' j' ∧ Good d' j' (l ++ [bs x])) ∨ (e = .returned (.int .i64 70) ∧ JX n X w' jp p d' { j with broken := true } ∧ Torn d' l (bs x))) := by
  have hst := hg.stop
  have hby := hg.bytes
  have hl := sum4_le l
  have hm := hg.many
  obtain ⟨d', hd⟩ := append_fails hg hp hk (bs x) (by rw [bs_length]; omega)
  rcases hd with ⟨j', e1, hg', hcc, _⟩ | ⟨e1, ht, _, hcc⟩
  · refine (append_X h x (by omega) hst.1 hst.2.1 (by omega) (by omega) (good_few hg hc hC) e1).mono ?_
    rintro e w' ⟨rfl, hj, hk⟩
    exact ⟨hk, d', by omega, .inl ⟨rfl, j', hj, hg'⟩⟩
  · refine (append_X h x (by omega) hst.1 hst.2.1 (by omega) (by omega) (good_few hg hc hC) e1).mono ?_
    rintro e w' ⟨rfl, hj, hk⟩
    exact ⟨hk, d', by omega, .inr ⟨rfl, hj, ht⟩⟩
/-- Append on a journal that is broken. -/
theorem append_B {n : Nat} {X : Nat → Prop} {w : World} {jp p : Nat} {d : DS} {j : JS} (h : JX n X w jp p d { j with broken := true }) (x : ByteArray) (hx : x.size ≤ 140737488351232) (hs : 64 ≤ j.stop) (hs2 : j.stop ≤ 16777216 + 64) (hn : j.many ≤ 1000000000) (hjb : j.bytes ≤ 140737488351232) (hf : d.few 80000000) :
    Calls Try.prog 14 #[.pointer (some ⟨jp, 0, none⟩), .string x] w fun e w' => e = .returned (.int .i64 70) ∧ JX n X w' jp p d { j with broken := true } ∧ KX n X w w' :=
  append_X h x hx hs hs2 hn hjb hf (append_dead2 d j (bs x))

set_option maxHeartbeats 1000000 in
set_option maxRecDepth 100000 in
theorem append_M_broken {n mp : Nat} {w : World} {m : MS} {X : Nat → Prop} (h : MX n w mp m X) (hbr : m.broken = true) (x : ByteArray) (b : Bool) :
    Calls Try.prog 16 #[.pointer (some ⟨mp, 0, none⟩), .string x, .bool b] w fun e w' => e = .returned (.int .i64 70) ∧ w = w' := by
  obtain ⟨R, S, hb, hX⟩ := h
  have c2 : w.cell? ⟨mp, 2, none⟩ = some (.bool true) := by rw [blk_cell hb.blk, ← hbr]; rfl
  clear hb hX
  go_enter Try.func16, Try.ntmps16
  go_wp2_with fail
  go_ret
  exact ⟨rfl, rfl⟩

set_option maxHeartbeats 1000000 in
set_option maxRecDepth 100000 in
theorem append_M_fails {n mp : Nat} {w : World} {m : MS} {X : Nat → Prop} (h : MX n w mp m X) (hbr : m.broken = false) (hmb : m.maybe = []) (x : ByteArray) (hx : m.bytes + x.size + 16 + 256 ≤ 16777216) (hn : n ≤ w.heap.size) :
    Calls Try.prog 16 #[.pointer (some ⟨mp, 0, none⟩), .string x, .bool false] w fun e w' => e = .returned (.int .i64 70) ∧
      ∃ Y, MX n w' mp { m with maybe := [bs x], broken := true } Y ∧ Keep X w w' ∧ ∀ k, Y k → k < w'.heap.size ∧ (X k ∨ w.heap.size ≤ k) := by
  obtain ⟨R, S, hb, hX⟩ := h
  obtain ⟨A, c, rfl, hno, hc⟩ := own_none hb.rm
  have hm0 : m.maybe.length = 0 := by rw [hmb]; rfl
  have hrm : w.ownsRow n 9 1 (.slice A 0 c) 0 [] := by have := hb.rm; rw [hmb] at this; exact this
  have c1 : w.cell? ⟨mp, 1, none⟩ = some (.slice A 0 c) := by rw [blk_cell hb.blk, hmb]; rfl
  have c2 : w.cell? ⟨mp, 2, none⟩ = some (.bool false) := by rw [blk_cell hb.blk, ← hbr]; rfl
  have c3 : w.cell? ⟨mp, 3, none⟩ = some (.int .i64 (m.bytes : Int)) := by rw [blk_cell hb.blk]; rfl
  have f2 := blk_free hb.blk 2
  have hml : mp < w.heap.size := blk_lt hb.blk
  rw [hm0] at hb hX
  have HB := Lib.hid hb; have HXX := Lib.hid hX; have HF := Lib.hid (fits_M c3 x hx); have HRM := Lib.hid hrm
  clear hb hX hno hc hrm hm0
  go_enter Try.func16, Try.ntmps16
  go_wp2_with fail
  ((with_reducible refine HF.out.mono ?_); rintro e wx ⟨rfl, rfl⟩)
  go_upto_region 7 with fail
  obtain ⟨w1, hw1⟩ : ∃ w1, w.setCell ⟨mp, 2, none⟩ (.bool true) = w1 := ⟨_, rfl⟩
  rw [hw1]
  have K1 := Lib.hid (show Keep (fun k => k = mp) w w1 by rw [← hw1]; exact (Keep.refl (fun k => k = mp) w).setCell (a := ⟨mp, 2, none⟩) (.inl rfl) _)
  have B1 := Lib.hid (show w1.heap[mp]? = some (.cells #[R, .slice A 0 c, .bool true, .int .i64 (m.bytes : Int)] 38 (0, 0)) by rw [← hw1]; exact blk_set HB.out.blk 2 _)
  have HW := Lib.hid hw1
  have R1 := Lib.hid (show w1.ownsRow n 9 1 (.slice A 0 c) 0 [] from K1.out.own HRM.out (fun b hb e => HB.out.q2 (e ▸ hb)))
  clear hw1
  have n1 : n ≤ w1.heap.size := Nat.le_trans hn K1.out.size
  have e1 : w1.cell? ⟨mp, 1, none⟩ = some (.slice A 0 c) := by rw [blk_cell B1.out]; rfl
  clear c1 c2 c3 f2
  go_wp2_with (at_builtin; refine wpList_append_want (by rfl) 22 9 (.string ⟨#[]⟩) 16 n Try.strs (.tmp 24) (.tmp 26) rfl (.slice A 0 c) 0 [] rfl (by exact (Keep.refl (fun _ => False) w1).alloc' _ |>.own R1.out (fun _ _ => id)) (some ⟨w1.heap.size, 0, none⟩) 1 1 [.string x] rfl (by intro h; cases h) (cells_new w1 [.string x] 9) (fun u hu => by cases List.mem_singleton.1 hu; rfl) (by omega) (by decide) (by simp; omega) ?_)
  intro A2 c2' w2 ho2 hg2 hob
  have hk2 : Keep (fun k => (Value.slice A 0 c).ownBlock = some k) w1 w2 := ((Keep.refl _ w1).alloc _).grown hg2 (fun k e => .inl e)
  have hblk2 := blk_grown (alloc_old' (o' := .cells #[.string x] 9) B1.out) hg2 HB.out.q2
  have d1 : w2.cell? ⟨mp, 1, none⟩ = some (.slice A 0 c) := by rw [blk_cell hblk2]; rfl
  have f1 := blk_free hblk2 1
  have HO2 := Lib.hid ho2; have HK2 := Lib.hid hk2; have HBL := Lib.hid hblk2; have HOB := Lib.hid hob
  clear ho2 hk2 hblk2 hg2 hob e1
  go_wp2_with fail
  go_ret
  have hk3 : Keep (fun k => k = mp) w2 (w2.setCell ⟨mp, 1, none⟩ (.slice A2 1 c2')) := (Keep.refl (fun k => k = mp) w2).setCell (a := ⟨mp, 1, none⟩) (.inl rfl) _
  have hb3 := blk_set HBL.out 1 (.slice A2 1 c2')
  obtain ⟨w3, hw3⟩ : ∃ w3, w2.setCell ⟨mp, 1, none⟩ (.slice A2 1 c2') = w3 := ⟨_, rfl⟩
  rw [hw3] at hk3 hb3 ⊢
  have hs1 := K1.out.size
  have hq2 : (Value.slice A2 1 c2').ownBlock ≠ some mp := by
    rcases HOB.out with h | h
    · rw [h]; exact HB.out.q2
    · rw [h]; intro e; have := Option.some.inj e; omega
  have hq3 : ∀ k, R.ownBlock = some k → (Value.slice A2 1 c2').ownBlock ≠ some k := by
    intro k hk e
    rcases HOB.out with h | h
    · rw [h] at e; exact HB.out.q3 k hk e
    · rw [h] at e
      have h1 := Option.some.inj e
      have h2 := own_blk_lt HB.out.rl hk
      omega
  have hmb3 : MB n w3 mp R (.slice A2 1 c2') { m with maybe := [bs x], broken := true } := by
    refine ⟨hb3.trans rfl, ?_, ?_, HB.out.low, HB.out.q1, hq2, hq3⟩
    · exact hk3.own (HK2.out.own (K1.out.own HB.out.rl (fun b hb e => HB.out.q1 (e ▸ hb))) (fun b hb h' => HB.out.q3 b hb h')) (fun b hb e => HB.out.q1 (e ▸ hb))
    · have e1 : strs [bs x] = [.string x] := by simp [strs, sb_bs]
      show w3.ownsRow n _ 1 _ 1 (strs [bs x])
      rw [e1]
      exact hk3.own HO2.out (fun b hb e => hq2 (e ▸ hb))
  refine ⟨rfl, _, ⟨_, _, hmb3, fun _ => Iff.rfl⟩, Keep.trans (Keep.mono K1.out (fun k hk => (HXX.out k).2 (.inl hk))) (Keep.trans (Keep.mono HK2.out (fun k hk => (HXX.out k).2 (.inr (.inr hk)))) (Keep.mono hk3 (fun k hk => (HXX.out k).2 (.inl hk)))), fun k hk => ⟨(hmb3.lt hk).2, ?_⟩⟩
  rcases hk with rfl | h1 | h1
  · exact .inl ((HXX.out _).2 (.inl rfl))
  · exact .inl ((HXX.out _).2 (.inr (.inl h1)))
  · rcases HOB.out with h | h
    · rw [h] at h1
      exact .inl ((HXX.out _).2 (.inr (.inr h1)))
    · rw [h] at h1
      have := Option.some.inj h1
      exact .inr (by omega)
end Go.Proofs.Ytbmmcdnmbdoglaa
