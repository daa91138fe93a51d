/- The reference journal: Opens with what it has. -/
import Derived.Test.YtbmmcdnmbdoglaaJ14
namespace Go.Proofs.Ytbmmcdnmbdoglaa
open Go.RowKit
set_option linter.unusedVariables false

theorem strs_one' (l : List Bytes) : ∀ u ∈ strs l, u.oneCell' = true := by
  intro u hu
  obtain ⟨_, _, rfl⟩ := List.mem_map.1 hu
  rfl
theorem bytes_step {l : List Bytes} {k : Nat} (h : k < l.length) : bytesOf (l.take (k + 1)) = bytesOf (l.take k) + (l.getD k []).length + 16 := by
  rw [List.take_add_one, List.getElem?_eq_getElem h, bytesOf_append, List.getD_eq_getElem?_getD, List.getElem?_eq_getElem h]
  simp only [Option.toList, bytesOf, Option.getD_some]
  omega
theorem bytes_take (l : List Bytes) (k : Nat) : bytesOf (l.take k) ≤ bytesOf l := by
  have h : bytesOf l = bytesOf (l.take k) + bytesOf (l.drop k) := by rw [← bytesOf_append, List.take_append_drop]
  omega

set_option maxHeartbeats 1000000 in
set_option maxRecDepth 100000 in
theorem opens_same {n mp : Nat} {w : World} {m : MS} {X : Nat → Prop} (h : MX n w mp m X) (hn : n ≤ w.heap.size) {A : Option Addr} {k c : Nat} {l : List Bytes} (hA : StrsAt w A k l) (hno : A = none → k = 0 ∧ c = 0) (hdis : ∀ a, A = some a → ¬ X a.block) (hl : l = m.l) (hk : k ≤ 1000000) (hby : bytesOf l ≤ 16777216) :
    Calls Try.prog 19 #[.pointer (some ⟨mp, 0, none⟩), .slice A k c] w fun e w' => e = .returned (.bool true) ∧
      ∃ Y, MX n w' mp ⟨l, [], false, bytesOf l⟩ Y ∧ Keep X w w' ∧ ∀ k, Y k → k < w'.heap.size ∧ (X k ∨ w.heap.size ≤ k) := by
  obtain ⟨R, S, hb, hX⟩ := h
  obtain ⟨B, cB, rfl, hnoB, hcB⟩ := own_none hb.rl
  have c0 : w.cell? ⟨mp, 0, none⟩ = some (.slice B m.l.length cB) := by rw [blk_cell hb.blk]; rfl
  have hml : mp < w.heap.size := blk_lt hb.blk
  have hsame := same_any hA (show StrsAt w B m.l.length m.l from hcB) true (by simp [hl]) (ca := c) (cb := cB)
  have HB := Lib.hid hb; have HXX := Lib.hid hX; have HS := Lib.hid hsame; have HA := Lib.hid hA; have HNO := Lib.hid hno; have HD := Lib.hid hdis
  have HLEN := Lib.hid hA.len
  have HBY := Lib.hid hby
  clear hb hX hnoB hcB hsame hA hno hdis hl hby
  go_enter Try.func19, Try.ntmps19
  go_wp2_with fail
  ((with_reducible refine HS.out.mono ?_); rintro e w1 ⟨rfl, i, hi⟩)
  have K1 := Lib.hid (show Keep (fun _ => False) w w1 by rw [hi]; exact keep_drewN _ _ _)
  have B1 := Lib.hid (HB.out.keep K1.out (fun _ _ => id))
  have A1 := Lib.hid (show StrsAt w1 A k l from HA.out.keep K1.out (fun _ _ => id))
  clear hi HS c0
  have hm1 : mp < w1.heap.size := blk_lt B1.out.blk
  have hn1 : n ≤ w1.heap.size := Nat.le_trans hn K1.out.size
  go_wp2_with (at_builtin; refine wpList_append_want (by rfl) 22 9 (.string ⟨#[]⟩) 16 n Try.strs (.tmp 52) (.tmp 53) rfl (.slice (some ⟨w1.heap.size, 0, none⟩) 0 0) 0 [] rfl (by exact own_new w1 9 #[] 0 n rfl (by decide) hn1) A k c (strs l) rfl HNO.out (A1.out.alloc _) (strs_one' l) (by omega) (by decide) (by simp; omega) ?_)
  intro A2 c2 w2 ho2 hg2 hob
  try simp only [Nat.zero_add, List.nil_append] at ho2 hob
  have hk2 : Keep (fun _ => False) w1 w2 := ((Keep.refl _ w1).alloc _).grown hg2 (fun k e => .inr (by have : some w1.heap.size = some k := e; have := Option.some.inj this; omega))
  have hblk2 := (hk2.block _ hm1 id).trans B1.out.blk
  have f0 := blk_free hblk2 0
  have f1 := blk_free hblk2 1
  have f2 := blk_free hblk2 2
  have f3 := blk_free hblk2 3
  have O2 := Lib.hid ho2; have K2 := Lib.hid hk2; have BL := Lib.hid hblk2; have OB := Lib.hid hob
  have d0 : ∃ u, w2.cell? ⟨mp, 0, none⟩ = some u := ⟨_, by rw [blk_cell hblk2]; rfl⟩
  have d1 : ∃ u, w2.cell? ⟨mp, 1, none⟩ = some u := ⟨_, by rw [blk_cell hblk2]; rfl⟩
  have d2 : w2.cell? ⟨mp, 2, none⟩ = some (.bool m.broken) := by rw [blk_cell hblk2]; rfl
  have d3 : w2.cell? ⟨mp, 3, none⟩ = some (.int .i64 (m.bytes : Int)) := by rw [blk_cell hblk2]; rfl
  obtain ⟨u0, d0⟩ := d0
  obtain ⟨u1, d1⟩ := d1
  clear ho2 hk2 hblk2 hg2 hob
  try simp only [Nat.zero_add]
  go_wp2_with fail
  obtain ⟨w3, hw3⟩ : ∃ w3, (((w2.setCell ⟨mp, 0, none⟩ (.slice A2 k c2)).setCell ⟨mp, 2, none⟩ (.bool false)).setCell ⟨mp, 1, none⟩ (.slice none 0 0)).setCell ⟨mp, 3, none⟩ (.int .i64 0) = w3 := ⟨_, rfl⟩
  rw [hw3]
  have hk3 : Keep (fun i => i = mp) w2 w3 := by
    rw [← hw3]
    exact ((((Keep.refl (fun i => i = mp) w2).setCell (a := ⟨mp, 0, none⟩) (.inl rfl) _).setCell (a := ⟨mp, 2, none⟩) (.inl rfl) _).setCell (a := ⟨mp, 1, none⟩) (.inl rfl) _).setCell (a := ⟨mp, 3, none⟩) (.inl rfl) _
  have hb3 : w3.heap[mp]? = some (.cells #[.slice A2 k c2, .slice none 0 0, .bool false, .int .i64 ((bytesOf (l.take 0) : Nat) : Int)] 38 (0, 0)) := by
    rw [← hw3]
    exact blk_set (blk_set (blk_set (blk_set BL.out 0 _) 2 _) 1 _) 3 _
  have HI0 := Lib.hid (And.intro hb3 hk3)
  clear hk3 hb3 hw3 f0 f1 f2 f3 d0 d1 d2 d3 BL
  go_loopw [6] (fun i wr => ∃ q : Nat, q ≤ k ∧ i = .int .i64 (q : Int) ∧ Hid (wr.heap[mp]? = some (.cells #[.slice A2 k c2, .slice none 0 0, .bool false, .int .i64 ((bytesOf (l.take q) : Nat) : Int)] 38 (0, 0)) ∧ Keep (fun i => i = mp) w2 wr)) (fun i _ => k - (intOf i).toNat)
  case atStart => exact ⟨0, by omega, rfl, HI0⟩
  case round =>
    obtain ⟨q, hq, rfl, HI⟩ := hrel
    obtain ⟨wo, rfl⟩ : ∃ wo : World, wo = wr := ⟨_, rfl⟩
    by_cases hlt : q < k
    · have b1 : decide (q < k) = true := by simpa using hlt
      have sA2 : StrsAt w2 A k l := A1.out.keep K2.out (fun _ _ => id)
      have sA3 : StrsAt wo A k l := sA2.keep HI.out.2 (fun b hb h' => HD.out b hb (h' ▸ (HXX.out mp).2 (.inl rfl)))
      obtain ⟨b, off, rfl, x0⟩ := sA3.at_ q hlt
      have e3 : wo.cell? ⟨mp, 3, none⟩ = some (.int .i64 ((bytesOf (l.take q) : Nat) : Int)) := by rw [blk_cell HI.out.1]; rfl
      have g3 := blk_free HI.out.1 3
      have hstep : bytesOf (l.take (q + 1)) = bytesOf (l.take q) + (sb (l.getD q [])).size + 16 := by rw [sb_size]; exact bytes_step (by rw [HLEN.out]; exact hlt)
      have hle := bytes_take l (q + 1)
      have hby := HBY.out
      obtain ⟨t, ht⟩ : ∃ t, bytesOf (l.take q) = t := ⟨_, rfl⟩
      obtain ⟨s, hs⟩ : ∃ s, sb (l.getD q []) = s := ⟨_, rfl⟩
      rw [hs] at x0 hstep
      rw [ht] at e3 hstep
      have hts : t + s.size + 16 ≤ 16777216 := by omega
      have HST := Lib.hid hstep
      have HT := Lib.hid ht
      clear hstep hle hby sA2 sA3 hs ht
      go_wp2_with fail
      go_still_tail 14, (by kernel_rfl)
      change wpList _ _ _ _ _ wo.drew
      have y0 : wo.drew.cell? ⟨b, off + q, none⟩ = some (.string s) := x0
      have y3 : wo.drew.cell? ⟨mp, 3, none⟩ = some (.int .i64 (t : Int)) := e3
      have y4 : wo.drew.frozen? ⟨mp, 3, none⟩ = false := g3
      clear x0 e3 g3
      go_wp2_with fail
      go_roundw
      · refine ⟨q + 1, by omega, by go_num, Lib.hid ⟨?_, ?_⟩⟩
        · refine (blk_set HI.out.1 3 (.int .i64 ((t : Int) + (s.size : Int) + 16))).trans ?_
          rw [HST.out, show ((t + s.size + 16 : Nat) : Int) = (t : Int) + (s.size : Int) + 16 by omega]
          rfl
        · exact Keep.trans HI.out.2 (Keep.trans ((Keep.refl (fun i => i = mp) wo).setCell (a := ⟨mp, 3, none⟩) (.inl rfl) _) (keep_draw _ _))
      · simp [intOf]; omega
    · have b1 : decide (q < k) = false := by simpa using hlt
      obtain rfl : q = k := by omega
      go_wp2_with fail
      go_ret
      refine ⟨rfl, ?_⟩
      have hob : ∀ i, (Value.slice A2 q c2).ownBlock = some i → w1.heap.size ≤ i := by
        intro i hi
        rcases OB.out with h | h
        · rw [h] at hi
          have hi' : some w1.heap.size = some i := hi
          have := Option.some.inj hi'; omega
        · rw [h] at hi
          have := Option.some.inj hi; omega
      have hs1 := K1.out.size
      have hmb : MB n wo mp (.slice A2 q c2) (.slice none 0 0) ⟨l, [], false, bytesOf l⟩ := by
        refine ⟨?_, ?_, ⟨rfl, .inl ⟨rfl, rfl⟩⟩, HB.out.low, fun e => by have := hob _ e; omega, by simp [Value.ownBlock], fun k _ => by simp [Value.ownBlock]⟩
        · have := HI.out.1
          rwa [List.take_of_length_le (by rw [HLEN.out]; exact Nat.le_refl _)] at this
        · show wo.ownsRow n _ 1 _ l.length (strs l)
          rw [HLEN.out]
          exact HI.out.2.own O2.out (fun b hb e => by have := hob _ hb; omega)
      refine ⟨_, ⟨_, _, hmb, fun _ => Iff.rfl⟩, Keep.trans (Keep.trans (Keep.mono K1.out (fun _ => False.elim)) (Keep.mono K2.out (fun _ => False.elim))) (Keep.mono HI.out.2 (fun i hi => (HXX.out i).2 (.inl hi))), fun i hi => ⟨(hmb.lt hi).2, ?_⟩⟩
      rcases hi with rfl | h1 | h1
      · exact .inl ((HXX.out _).2 (.inl rfl))
      · exact .inr (by have := hob _ h1; omega)
      · simp [Value.ownBlock] at h1
end Go.Proofs.Ytbmmcdnmbdoglaa
