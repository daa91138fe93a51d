/- sanity. -/
import Derived.Test.YtbmmcdnmbdoglaaJ10
namespace Go.Proofs.Ytbmmcdnmbdoglaa
open Go.RowKit
set_option linter.unusedVariables false

theorem JX.later {n : Nat} {X Y : Nat → Prop} {w w' : World} {jp p : Nat} {d : DS} {j : JS} (h : JX n X w jp p d j) (hs : Since w.heap.size w w') (hY : ∀ k, Y k → k < w'.heap.size ∧ (X k ∨ w.heap.size ≤ k)) : JX n Y w' jp p d j := by
  obtain ⟨hn, r, hp, hd, hj, hf, hx⟩ := h
  refine ⟨Nat.le_trans hn hs.size, r, hp, hd.keep hs (fun i hi h' => ?_) (fun h' => ?_), hj, hf, fun k hk => ⟨(hY k hk).1, ?_⟩⟩
  · have := hd.disk.foot_lt i hi; omega
  · have := blk_lt hd.blk; omega
  · rcases (hY k hk).2 with h1 | h1
    · exact (hx k h1).2
    · exact ⟨fun h' => by have := hd.disk.foot_lt k h'; omega, fun e => by have := blk_lt hd.blk; omega⟩
theorem strs_since {w w' : World} {A : Option Addr} {k : Nat} {l : List Bytes} (h : StrsAt w A k l) (hs : Since w.heap.size w w') : StrsAt w' A k l := by
  refine ⟨h.1, h.2.1, fun h0 => ?_⟩
  obtain ⟨b, off, e, hl, hc⟩ := h.2.2 h0
  exact ⟨b, off, e, Nat.lt_of_lt_of_le hl hs.size, fun j hj => (hs.cell (p := ⟨b, off + j, none⟩) hl (fun h' => by simp only at h'; omega)).trans (hc j hj)⟩
theorem ints_since' {w w' : World} {A : Option Addr} {k : Nat} {q : List Int} (h : IntsAt w A k q) (hs : Since w.heap.size w w') : IntsAt w' A k q := by
  refine ⟨h.1, h.2.1, fun h0 => ?_⟩
  obtain ⟨b, off, e, hl, hc⟩ := h.2.2 h0
  exact ⟨b, off, e, Nat.lt_of_lt_of_le hl hs.size, fun j hj => (hs.cell (p := ⟨b, off + j, none⟩) hl (fun h' => by simp only at h'; omega)).trans (hc j hj)⟩
/-- A good journal's numbers are small. -/
theorem good_few {d : DS} {j : JS} {l : List Bytes} (h : Good d j l) {k : Nat} (hc : d.calls ≤ k) (hk : k ≤ 80000000) : d.few 80000000 := ⟨by omega, by rw [h.prt]; simp⟩
/-- What Append does on a good journal whose power is on. -/
theorem append_G {n : Nat} {X : Nat → Prop} {w : World} {jp p : Nat} {d : DS} {j : JS} {l : List Bytes} (h : JX n X w jp p d j) (hg : Good d j l) (hp : d.failing = false) (x : ByteArray) {B : Nat} (hB : bytesOf l ≤ B) (hx : B + x.size + 16 + 256 ≤ 16777216) {C : Nat} (hc : d.calls ≤ C) (hC : C ≤ 80000000) :
    Calls Try.prog 14 #[.pointer (some ⟨jp, 0, none⟩), .string x] w fun e w' => e = .returned (.int .i64 0) ∧ ∃ d' j', JX n X w' jp p d' j' ∧ Good d' j' (l ++ [bs x]) ∧ d'.failing = false ∧ d'.calls ≤ ((C + 4 : Nat) : Int) ∧ KX n X w w' := by
  have hst := hg.stop
  have hby := hg.bytes
  have hl := sum4_le l
  have hm := hg.many
  obtain ⟨d', j', e1, hg', hp', hc'⟩ := append_ok hg hp (bs x) (by rw [bs_length]; omega)
  refine (append_X h x (by omega) hst.1 hst.2.1 (by omega) (by omega) (good_few hg hc hC) e1).mono ?_
  rintro e w' ⟨rfl, hj, hk⟩
  exact ⟨rfl, d', j', hj, hg', hp', by omega, hk⟩
/-- Append once the power has failed. -/
theorem append_dead {d : DS} {j : JS} {l : List Bytes} (h : Good d j l) (x : Bytes) (hx : j.bytes + x.length + 16 + 256 ≤ 16777216) (k : Int) (hk : k = 0) : appendJ (d.fail k) j x = (70, d.fail k, { j with broken := true }) := by
  have hs := h.stop
  have ho : (d.fail k).off = true := by subst hk; rfl
  have e1 : (d.fail k).doWrite j.stop (numL x.length 4 ++ x) = (70, d.fail k) := doWrite_off (by rw [List.length_append, numL_length]; omega) ho
  have es : ∀ nx, stepsJ (d.fail k) j.stop x nx = (70, d.fail k) := fun nx => by
    unfold stepsJ
    rw [e1, if_neg (show ¬ (70 : Int) = 0 by decide)]
  unfold appendJ
  rw [h.fine, if_neg (by simp), if_neg (by omega), es, if_neg (show ¬ (70 : Int) = 0 by decide)]
theorem append_dead2 (d : DS) (j : JS) (x : Bytes) : appendJ d { j with broken := true } x = (70, d, { j with broken := true }) := by
  unfold appendJ
  rw [if_pos rfl]
/-- The disk of a journal crashes, and the journal is opened anew, on the new disk: what it had is there. -/
theorem crash_now {d : DS} (hs : d.synced = d.now) (hp : d.parts = []) (ns : List Int) : (d.crash ns).now = d.now := by
  show crashL ns 0 d.synced d.parts = d.now
  rw [hp, hs]; rfl
theorem open_C {m : Nat} {w : World} {d : DS} (hd : D m w m d) (hc : d.calls = 0) (ho : d.off = false) (hp : d.parts = []) {E : Nat} {l : List Bytes} (hw : openL d.now = some (E, l)) :
    Calls Try.prog 12 #[.pointer (some ⟨m, 0, none⟩)] w fun e w' => ∃ jp A c, e = .returned (.tuple #[.pointer (some ⟨jp, 0, none⟩), .slice A l.length c, .int .i64 0]) ∧
      JX m (fun k => ∃ a, A = some a ∧ k = a.block) w' jp m d.sync ⟨l.length, bytesOf l, E, false⟩ ∧ Since m w w' ∧ StrsAt w' A l.length l ∧ (∀ a, A = some a → m ≤ a.block) ∧ (A = none → l.length = 0 ∧ c = 0) ∧ l.length ≤ c := by
  have h := open_X (dx_of hd (fun _ => False) (fun _ => False.elim)) ho ⟨by rw [hc]; decide, by rw [hp]; simp⟩ hw
  refine h.mono ?_
  rintro e w' ⟨jp, A, c, he, hj, hk, hA, hA2, hA3⟩
  refine ⟨jp, A, c, he, ?_, hk.since, hA, fun a ha => Nat.le_trans hd.le (hA2 a ha), hA3⟩
  obtain ⟨hn, r, hp, hd, hj, hf, hx⟩ := hj
  exact ⟨hn, r, hp, hd, hj, hf, fun k hk => hx k (.inr hk)⟩
theorem strs_lit (w : World) (l : List Bytes) (h : l.length ≤ 100) : StrsAt (w.alloc (.cells (strs l).toArray 9)) (some ⟨w.heap.size, 0, none⟩) l.length l := by
  have := cells_new w (strs l) 9 (by simp [strs]; omega)
  rwa [show (strs l).length = l.length by simp [strs]] at this

theorem new_facts : DS.new.off = false ∧ DS.new.few 100000000 ∧ openL DS.new.now = some (64, ([] : List Bytes)) ∧ DS.new.sync.failing = false ∧ DS.new.sync.calls = 1 ∧ Good DS.new.sync ⟨0, 0, 64, false⟩ [] := by
  have e : openL DS.new.now = some (64, ([] : List Bytes)) := open_new
  exact ⟨rfl, ⟨by decide, by decide⟩, e, rfl, rfl, good_open e⟩

set_option maxHeartbeats 1000000 in
set_option maxRecDepth 100000 in
theorem sanity_any (w : World) : Calls Try.prog 10 #[] w fun e w' => e = .returned (.bool true) ∧ Since w.heap.size w w' := by
  obtain ⟨n1, n2, n3, n4, n5, n6⟩ := new_facts
  obtain ⟨d0, hd0⟩ : ∃ d0, DS.new = d0 := ⟨_, rfl⟩
  have hnew := new_D w
  rw [hd0] at n1 n2 n3 n4 n5 n6 hnew
  have N := Lib.hid (And.intro n1 (And.intro n2 (And.intro n3 (And.intro n4 (And.intro n5 n6)))))
  have HNEW := Lib.hid hnew
  clear n1 n2 n3 n4 n5 n6 hnew hd0
  go_enter Try.func10, Try.ntmps10
  go_wp2_with fail
  ((with_reducible refine HNEW.out.mono ?_); rintro e w1 ⟨rfl, hd1, hs1⟩)
  have D1 := Lib.hid (dx_of hd1 (fun _ => False) (fun _ => False.elim)); have S1 := Lib.hid hs1
  clear hd1 hs1
  go_wp2_with fail
  have h1 := open_X D1.out N.out.1 N.out.2.1 N.out.2.2.1
  ((with_reducible refine h1.mono ?_); rintro e w2 ⟨jp, A2, c2, rfl, hj2, hk2, _, _, _⟩)
  have J2 := Lib.hid hj2; have S2 := Lib.hid (Keep.trans S1.out hk2.since)
  clear hj2 hk2 h1
  go_wp2_with fail
  have h2 := append_G J2.out N.out.2.2.2.2.2 N.out.2.2.2.1 ⟨#[97]⟩ (B := 0) (by decide) (by decide) (C := 1) (by rw [N.out.2.2.2.2.1]; decide) (by decide)
  ((with_reducible refine h2.mono ?_); rintro e w3 ⟨rfl, d1, j1, hj3, hg3, hp3, hc3, hk3⟩)
  have J3 := Lib.hid hj3; have G3 := Lib.hid hg3; have P3 := Lib.hid (And.intro hp3 hc3); have S3 := Lib.hid (Keep.trans S2.out hk3.since)
  clear hj3 hg3 hp3 hc3 hk3 h2
  go_wp2_with fail
  have h3 := append_G J3.out G3.out P3.out.1 ⟨#[]⟩ (B := 17) (by decide) (by decide) (C := 5) P3.out.2 (by decide)
  ((with_reducible refine h3.mono ?_); rintro e w4 ⟨rfl, d2, j2, hj4, hg4, hp4, hc4, hk4⟩)
  have hg4' : Good d2 j2 [[97], []] := hg4
  have J4 := Lib.hid hj4; have G4 := Lib.hid hg4'; have P4 := Lib.hid (And.intro hp4 hc4); have S4 := Lib.hid (Keep.trans S3.out hk4.since)
  have HM := Lib.hid (show (j2.many : Int) = 2 by rw [hg4'.many]; rfl)
  clear hj4 hg4 hg4' hp4 hc4 hk4 h3 J2 J3 G3 P3 S2 S3 D1 S1
  go_wp2_with fail
  have h4 := many_X J4.out
  ((with_reducible refine h4.mono ?_); rintro e wx ⟨rfl, rfl⟩)
  rw [HM.out]
  clear h4
  go_wp2_with fail
  have h5 := crash_X J4.out.dx none 0 0 [] (CellsAt.nil _ _) (by simp) (by rw [G4.out.prt]; simp)
  have gc := good_crash G4.out []
  obtain ⟨d3, hd3⟩ : ∃ d3, d2.crash [] = d3 := ⟨_, rfl⟩
  have cf : d3.calls = 0 ∧ d3.off = false ∧ d3.parts = [] := by rw [← hd3]; exact ⟨rfl, rfl, rfl⟩
  rw [hd3] at h5 gc
  ((with_reducible refine h5.mono ?_); rintro e w5 ⟨rfl, _, hd5, hs5⟩)
  have D5 := Lib.hid hd5; have S5 := Lib.hid hs5; have C5 := Lib.hid (And.intro cf gc)
  clear hd5 hs5 hd3 cf gc h5
  go_wp2_with fail
  have h6 := open_C D5.out C5.out.1.1 C5.out.1.2.1 C5.out.1.2.2 C5.out.2.opn
  ((with_reducible refine h6.mono ?_); rintro e w6 ⟨jp6, A6, c6, rfl, hj6, hs6, hA6, hA6b, _⟩)
  have hs46 : Since w4.heap.size w4 w6 := Keep.trans S5.out hs6
  have J6 := Lib.hid (J4.out.later (Y := fun k => ∃ a, A6 = some a ∧ k = a.block) hs46 (fun k hk => ⟨hj6.lt k hk, by obtain ⟨a, ha, rfl⟩ := hk; exact .inr (hA6b a ha)⟩))
  have A6s := Lib.hid hA6; have S6 := Lib.hid (Keep.trans S4.out (Since.mono hs46 S4.out.size))
  clear hj6 hs6 hA6 hA6b hs46 h6 J4 S4 S5 D5 C5
  go_wp2_with fail
  have h7 := fail_X J6.out 0 (by decide)
  ((with_reducible refine h7.mono ?_); rintro e w7 ⟨rfl, hj7, hk7⟩)
  have J7 := Lib.hid hj7; have A7 := Lib.hid (hk7.strs A6s.out (fun a ha => .inr ⟨a, ha, rfl⟩)); have S7 := Lib.hid (Keep.trans S6.out hk7.since)
  clear hj7 hk7 h7 J6 A6s S6
  go_wp2_with fail
  have hst := G4.out.stop
  have hby := G4.out.bytes
  have hby2 : bytesOf [[97], []] = 33 := by decide
  have hmm : j2.many = 2 := by have := HM.out; omega
  have hjb : j2.bytes = 33 := hby.trans hby2
  have hff : (d2.fail 0).few 80000000 := ⟨by show d2.calls ≤ _; have := P4.out.2; omega, by show d2.parts.length ≤ _; rw [G4.out.prt]; simp⟩
  have hde := append_dead G4.out (bs ⟨#[98]⟩) (by rw [bs_length]; have : (⟨#[98]⟩ : ByteArray).size = 1 := rfl; omega) 0 rfl
  have h8 := append_X J7.out ⟨#[98]⟩ (by decide) hst.1 hst.2.1 (by omega) (by omega) hff hde
  have hde2 := append_dead2 (d2.fail 0) j2 (bs ⟨#[99]⟩)
  have H9 := Lib.hid (fun w8 (hj8 : JX w.heap.size (fun k => ∃ a, A6 = some a ∧ k = a.block) w8 jp w.heap.size (d2.fail 0) { j2 with broken := true }) => append_X hj8 ⟨#[99]⟩ (by decide) hst.1 hst.2.1 (by show j2.many ≤ _; omega) (by show j2.bytes ≤ _; omega) hff hde2)
  have GF := Lib.hid (show Good (d2.fail 0) j2 [[97], []] from ⟨G4.out.syn, G4.out.prt, G4.out.opn, G4.out.many, G4.out.bytes, G4.out.fine⟩)
  obtain ⟨d4, hd4⟩ : ∃ d4, d2.fail 0 = d4 := ⟨_, rfl⟩
  rw [hd4] at h8 H9 GF
  clear hst hby hby2 hmm hjb hff hde hde2 hd4
  ((with_reducible refine h8.mono ?_); rintro e w8 ⟨rfl, hj8, hk8⟩)
  have J8 := Lib.hid hj8; have A8 := Lib.hid (hk8.strs A7.out (fun a ha => .inr ⟨a, ha, rfl⟩)); have S8 := Lib.hid (Keep.trans S7.out hk8.since)
  clear hj8 hk8 h8 A7 S7 J7
  go_wp2_with fail
  have h9 := H9.out _ J8.out
  ((with_reducible refine h9.mono ?_); rintro e w9 ⟨rfl, hj9, hk9⟩)
  have J9 := Lib.hid hj9; have A9 := Lib.hid (hk9.strs A8.out (fun a ha => .inr ⟨a, ha, rfl⟩)); have S9 := Lib.hid (Keep.trans S8.out hk9.since)
  clear hj9 hk9 h9 A8 S8 J8 H9
  go_wp2_with fail
  have h10 := crash_X J9.out.dx none 0 0 [] (CellsAt.nil _ _) (by simp) (by rw [GF.out.prt]; simp)
  have gc := good_crash GF.out []
  obtain ⟨d5, hd5⟩ : ∃ d5, d4.crash [] = d5 := ⟨_, rfl⟩
  have cf : d5.calls = 0 ∧ d5.off = false ∧ d5.parts = [] := by rw [← hd5]; exact ⟨rfl, rfl, rfl⟩
  rw [hd5] at h10 gc
  ((with_reducible refine h10.mono ?_); rintro e w10 ⟨rfl, _, hd10, hs10⟩)
  have D10 := Lib.hid hd10; have C10 := Lib.hid (And.intro cf gc); have A10 := Lib.hid (strs_since A9.out hs10); have S10 := Lib.hid (Keep.trans S9.out (Since.mono hs10 S9.out.size)); have Z10 := Lib.hid hs10; have S9z := Lib.hid S9.out.size
  clear hd10 hs10 hd5 cf gc h10 J9 S9
  go_wp2_with fail
  have h11 := open_C D10.out C10.out.1.1 C10.out.1.2.1 C10.out.1.2.2 C10.out.2.opn
  ((with_reducible refine h11.mono ?_); rintro e w11 ⟨jp11, A11, c11, rfl, _, hs11, hA11, _, _⟩)
  have B11 := Lib.hid hA11; have A11s := Lib.hid (strs_since A9.out (Keep.trans Z10.out hs11)); have S11 := Lib.hid (Keep.trans S10.out (Since.mono hs11 S9z.out))
  clear hs11 hA11 h11 D10 C10 A10 A9 Z10 S10
  go_wp2_with fail
  have hb : ∀ w : World, Since w.heap.size w (w.alloc (.cells #[.string ⟨#[97]⟩, .string ⟨#[]⟩] 9)) := fun w => Since.of ((Keep.refl _ w).alloc' _)
  have h12 := same_any (strs_since B11.out (hb w11)) (strs_lit w11 [[97], []] (by decide)) true (by decide) (ca := c11) (cb := 2)
  have h12' : Calls Try.prog 21 #[.slice A11 2 c11, .slice (some ⟨w11.heap.size, 0, none⟩) 2 2] (w11.alloc (.cells #[.string ⟨#[97]⟩, .string ⟨#[]⟩] 9)) fun e w' => e = .returned (.bool true) ∧ ∃ i, w' = (w11.alloc (.cells #[.string ⟨#[97]⟩, .string ⟨#[]⟩] 9)).drewN i := h12
  clear h12
  ((with_reducible refine h12'.mono ?_); rintro e w12 ⟨rfl, i, hi⟩)
  have hs12 : Since w11.heap.size w11 w12 := by rw [hi]; exact Keep.trans (hb w11) (since_draw _ _ _)
  have A12 := Lib.hid (strs_since A11s.out hs12); have S12 := Lib.hid (Keep.trans S11.out (Since.mono hs12 S11.out.size)); have HB := Lib.hid hb
  clear hi hs12 h12' hb
  go_wp2_with fail
  have h13 := same_any (strs_since A12.out (HB.out w12)) (strs_lit w12 [[97], []] (by decide)) true (by decide) (ca := c6) (cb := 2)
  have h13' : Calls Try.prog 21 #[.slice A6 2 c6, .slice (some ⟨w12.heap.size, 0, none⟩) 2 2] (w12.alloc (.cells #[.string ⟨#[97]⟩, .string ⟨#[]⟩] 9)) fun e w' => e = .returned (.bool true) ∧ ∃ i, w' = (w12.alloc (.cells #[.string ⟨#[97]⟩, .string ⟨#[]⟩] 9)).drewN i := h13
  clear h13
  ((with_reducible refine h13'.mono ?_); rintro e w13 ⟨rfl, i, hi⟩)
  have S13 := Lib.hid (show Since w.heap.size w w13 by rw [hi]; exact Keep.trans S12.out (Since.mono (Keep.trans (HB.out w12) (since_draw _ _ _)) S12.out.size))
  clear hi h13'
  go_wp2_with fail
  go_ret
  exact ⟨rfl, S13.out⟩
end Go.Proofs.Ytbmmcdnmbdoglaa
