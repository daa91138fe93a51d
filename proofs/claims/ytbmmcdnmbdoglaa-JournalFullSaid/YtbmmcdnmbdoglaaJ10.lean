/- Contracts of a journal whose parts are left open, beside blocks that stay. -/
import Derived.Test.YtbmmcdnmbdoglaaJP
import Derived.Test.YtbmmcdnmbdoglaaJ9
namespace Go.Proofs.Ytbmmcdnmbdoglaa
open Go.RowKit
set_option linter.unusedVariables false

/-- What lies from n on, but for X, may have been turned. -/
abbrev KX (n : Nat) (X : Nat → Prop) (w w' : World) : Prop := Keep (fun k => n ≤ k ∧ ¬ X k) w w'
/-- A disk beside X. -/
def DX (n : Nat) (X : Nat → Prop) (w : World) (p : Nat) (d : DS) : Prop := n ≤ w.heap.size ∧ ∃ r : Rep, r.p = p ∧ IsDisk w r d ∧ (∀ k, r.foot k → n ≤ k) ∧ ∀ k, X k → k < w.heap.size ∧ ¬ r.foot k
/-- A journal with its disk beside X. -/
def JX (n : Nat) (X : Nat → Prop) (w : World) (jp p : Nat) (d : DS) (j : JS) : Prop := n ≤ w.heap.size ∧ ∃ r : Rep, r.p = p ∧ JD w jp r d j ∧ n ≤ jp ∧ (∀ k, r.foot k → n ≤ k) ∧ ∀ k, X k → k < w.heap.size ∧ ¬ r.foot k ∧ k ≠ jp
theorem KX.cell {n : Nat} {X : Nat → Prop} {w w' : World} {a : Addr} {v : Value} (h : KX n X w w') (hc : w.cell? a = some v) (ha : a.block < n ∨ X a.block) : w'.cell? a = some v := cell_kept h hc (fun h' => by
  rcases ha with ha | ha
  · have := h'.1; omega
  · exact h'.2 ha)
theorem KX.strs {n k : Nat} {X : Nat → Prop} {w w' : World} {A : Option Addr} {l : List Bytes} (h : KX n X w w') (hs : StrsAt w A k l) (hA : ∀ a, A = some a → a.block < n ∨ X a.block) : StrsAt w' A k l :=
  hs.keep h (fun b hb h' => by
    rcases hA b hb with ha | ha
    · have := h'.1; omega
    · exact h'.2 ha)
theorem KX.of_since {n : Nat} {X : Nat → Prop} {w w' : World} (h : Since w.heap.size w w') (hn : n ≤ w.heap.size) (hX : ∀ k, X k → k < w.heap.size) : KX n X w w' :=
  Keep.mono h (fun k hk => ⟨Nat.le_trans hn hk, fun hx => Nat.lt_irrefl _ (Nat.lt_of_lt_of_le (hX k hx) hk)⟩)
theorem KX.since {n : Nat} {X : Nat → Prop} {w w' : World} (h : KX n X w w') : Since n w w' := Keep.mono h (fun k hk => hk.1)
theorem DX.lt {n : Nat} {X : Nat → Prop} {w : World} {p : Nat} {d : DS} (h : DX n X w p d) : ∀ k, X k → k < w.heap.size := fun k hk => by obtain ⟨_, r, _, _, _, hx⟩ := h; exact (hx k hk).1
theorem JX.lt {n : Nat} {X : Nat → Prop} {w : World} {jp p : Nat} {d : DS} {j : JS} (h : JX n X w jp p d j) : ∀ k, X k → k < w.heap.size := fun k hk => by obtain ⟨_, r, _, _, _, _, hx⟩ := h; exact (hx k hk).1
theorem DX.d {n : Nat} {X : Nat → Prop} {w : World} {p : Nat} {d : DS} (h : DX n X w p d) : D n w p d := let ⟨_, r, hp, hd, hf, _⟩ := h; ⟨r, hp, hd, hf⟩
theorem JX.dx {n : Nat} {X : Nat → Prop} {w : World} {jp p : Nat} {d : DS} {j : JS} (h : JX n X w jp p d j) : DX n X w p d := let ⟨hn, r, hp, hd, _, hf, hx⟩ := h; ⟨hn, r, hp, hd.disk, hf, fun k hk => ⟨(hx k hk).1, (hx k hk).2.1⟩⟩
theorem JX.d {n : Nat} {X : Nat → Prop} {w : World} {jp p : Nat} {d : DS} {j : JS} (h : JX n X w jp p d j) : D n w p d := h.dx.d
theorem JX.ok {n : Nat} {X : Nat → Prop} {w : World} {jp p : Nat} {d : DS} {j : JS} (h : JX n X w jp p d j) : d.Ok := h.d.ok
/-- New memory, or other blocks. -/
theorem JX.since {n : Nat} {X : Nat → Prop} {w w' : World} {jp p : Nat} {d : DS} {j : JS} (h : JX n X w jp p d j) (hs : Since w.heap.size w w') : JX n X w' jp p d j := by
  obtain ⟨hn, r, hp, hd, hj, hf, hx⟩ := h
  refine ⟨Nat.le_trans hn hs.size, r, hp, hd.keep hs (fun i hi h' => ?_) (fun h' => ?_), hj, hf, fun k hk => ⟨Nat.lt_of_lt_of_le (hx k hk).1 hs.size, (hx k hk).2⟩⟩
  · have := hd.disk.foot_lt i hi; omega
  · have := blk_lt hd.blk; omega
theorem DX.since {n : Nat} {X : Nat → Prop} {w w' : World} {p : Nat} {d : DS} (h : DX n X w p d) (hs : Since w.heap.size w w') : DX n X w' p d := by
  obtain ⟨hn, r, hp, hd, hf, hx⟩ := h
  exact ⟨Nat.le_trans hn hs.size, r, hp, hd.since hs, hf, fun k hk => ⟨Nat.lt_of_lt_of_le (hx k hk).1 hs.size, (hx k hk).2⟩⟩
/-- What lies beside may be another set, if it was there before, or is new. -/
theorem JX.beside {n : Nat} {X Y : Nat → Prop} {w w' : World} {jp p : Nat} {d : DS} {j : JS} (h : JX n X w jp p d j) {F : Nat → Prop} (hk : Keep F w w') (hF : ∀ k, F k → X k) (hY : ∀ k, Y k → k < w'.heap.size ∧ (X k ∨ w.heap.size ≤ k)) : JX n Y w' jp p d j := by
  obtain ⟨hn, r, hp, hd, hj, hf, hx⟩ := h
  refine ⟨Nat.le_trans hn hk.size, r, hp, hd.keep hk (fun i hi h' => (hx i (hF i h')).2.1 hi) (fun h' => (hx jp (hF jp h')).2.2 rfl), hj, hf, fun k hk' => ⟨(hY k hk').1, ?_⟩⟩
  rcases (hY k hk').2 with h1 | h1
  · exact (hx k h1).2
  · exact ⟨fun h' => by have := hd.disk.foot_lt k h'; omega, fun e => by have := blk_lt hd.blk; omega⟩
theorem DX.beside {n : Nat} {X Y : Nat → Prop} {w w' : World} {p : Nat} {d : DS} (h : DX n X w p d) {F : Nat → Prop} (hk : Keep F w w') (hF : ∀ k, F k → X k) (hY : ∀ k, Y k → k < w'.heap.size ∧ (X k ∨ w.heap.size ≤ k)) : DX n Y w' p d := by
  obtain ⟨hn, r, hp, hd, hf, hx⟩ := h
  refine ⟨Nat.le_trans hn hk.size, r, hp, hd.keep hk (fun i hi h' => (hx i (hF i h')).2 hi), hf, fun k hk' => ⟨(hY k hk').1, ?_⟩⟩
  rcases (hY k hk').2 with h1 | h1
  · exact (hx k h1).2
  · exact fun h' => by have := hd.foot_lt k h'; omega
theorem dx_of {n : Nat} {w : World} {p : Nat} {d : DS} (h : D n w p d) (X : Nat → Prop) (hX : ∀ k, X k → k < n) : DX n X w p d := by
  have hn := h.le
  obtain ⟨r, hp, hd, hf⟩ := h
  exact ⟨hn, r, hp, hd, hf, fun k hk => ⟨Nat.lt_of_lt_of_le (hX k hk) hn, fun h' => by have := hf k h'; have := hX k hk; omega⟩⟩
theorem DX.mono {n m : Nat} {X : Nat → Prop} {w : World} {p : Nat} {d : DS} (h : DX n X w p d) (hm : m ≤ n) : DX m X w p d := let ⟨hn, r, hp, hd, hf, hx⟩ := h; ⟨Nat.le_trans hm hn, r, hp, hd, fun k hk => Nat.le_trans hm (hf k hk), hx⟩

/-! ### Steps -/
theorem DX.step {n : Nat} {X : Nat → Prop} {w w' : World} {r r' : Rep} {p : Nat} {d' : DS} (hp : r.p = p) (hn : n ≤ w.heap.size) (hf : ∀ k, r.foot k → n ≤ k) (hx : ∀ k, X k → k < w.heap.size ∧ ¬ r.foot k) (h : Step w r w' r' d') : DX n X w' p d' ∧ KX n X w w' := by
  refine ⟨⟨Nat.le_trans hn h.keep.size, r', h.p.trans hp, h.disk, fun k hk => ?_, fun k hk => ⟨Nat.lt_of_lt_of_le (hx k hk).1 h.keep.size, fun h' => ?_⟩⟩, Keep.mono h.keep (fun k hk => ⟨hf k hk, fun h' => (hx k h').2 hk⟩)⟩
  · rcases h.foot k hk with h1 | h1
    · exact hf k h1
    · omega
  · rcases h.foot k h' with h1 | h1
    · exact (hx k hk).2 h1
    · have := (hx k hk).1; omega
theorem JX.step {n : Nat} {X : Nat → Prop} {w w' : World} {r r' : Rep} {jp p : Nat} {d d' : DS} {j : JS} (hp : r.p = p) (hn : n ≤ w.heap.size) (hd : JD w jp r d j) (hj : n ≤ jp) (hf : ∀ k, r.foot k → n ≤ k) (hx : ∀ k, X k → k < w.heap.size ∧ ¬ r.foot k ∧ k ≠ jp) (h : Step w r w' r' d') : JX n X w' jp p d' j ∧ KX n X w w' := by
  obtain ⟨⟨h1, r2, h2⟩, h3⟩ := DX.step hp hn hf (fun k hk => ⟨(hx k hk).1, (hx k hk).2.1⟩) h
  have hjl := blk_lt hd.blk
  refine ⟨⟨h1, r', h.p.trans hp, ⟨?_, h.disk, fun h' => ?_⟩, hj, fun k hk => ?_, fun k hk => ⟨Nat.lt_of_lt_of_le (hx k hk).1 h.keep.size, fun h' => ?_, (hx k hk).2.2⟩⟩, h3⟩
  · rw [h.p]
    exact (h.keep.block _ hjl hd.q).trans hd.blk
  · rcases h.foot jp h' with h4 | h4
    · exact hd.q h4
    · omega
  · rcases h.foot k hk with h4 | h4
    · exact hf k h4
    · omega
  · rcases h.foot k h' with h4 | h4
    · exact (hx k hk).2.1 h4
    · have := (hx k hk).1; omega
theorem append_X {n : Nat} {X : Nat → Prop} {w : World} {jp p : Nat} {d : DS} {j : JS} (h : JX n X w jp p d j) (x : ByteArray) (hx : x.size ≤ 140737488351232) (hs : 64 ≤ j.stop) (hs2 : j.stop ≤ 16777216 + 64) (hn : j.many ≤ 1000000000) (hjb : j.bytes ≤ 140737488351232) (hf : d.few 80000000)
    {Y : Int × DS × JS} (hY : appendJ d j (bs x) = Y) :
    Calls Try.prog 14 #[.pointer (some ⟨jp, 0, none⟩), .string x] w fun e w' => e = .returned (.int .i64 Y.1) ∧ JX n X w' jp p Y.2.1 Y.2.2 ∧ KX n X w w' := by
  obtain ⟨hnw, r, rfl, hd, hj, hft, hX⟩ := h
  refine (append_any hd x hx hs hs2 hn hjb hf).mono ?_
  rw [hY]
  rintro e w' ⟨rfl, r', hp, hd', hk, hft'⟩
  refine ⟨rfl, ⟨Nat.le_trans hnw hk.size, r', hp, hd', hj, fun k h1 => ?_, fun k h1 => ⟨Nat.lt_of_lt_of_le (hX k h1).1 hk.size, fun h' => ?_, (hX k h1).2.2⟩⟩, Keep.mono hk (fun k h1 => ?_)⟩
  · rcases hft' k h1 with h2 | h2
    · exact hft k h2
    · omega
  · rcases hft' k h' with h2 | h2
    · exact (hX k h1).2.1 h2
    · have := (hX k h1).1; omega
  · rcases h1 with h2 | h2
    · exact ⟨hft k h2, fun h3 => (hX k h3).2.1 h2⟩
    · exact ⟨h2 ▸ hj, fun h3 => (hX k h3).2.2 h2⟩
theorem many_X {n : Nat} {X : Nat → Prop} {w : World} {jp p : Nat} {d : DS} {j : JS} (h : JX n X w jp p d j) : Calls Try.prog 17 #[.pointer (some ⟨jp, 0, none⟩)] w fun e w' => e = .returned (.int .i64 (j.many : Int)) ∧ w = w' := by
  obtain ⟨hnw, r, rfl, hd, hj, hft, hX⟩ := h
  exact many_any hd
theorem fail_X {n : Nat} {X : Nat → Prop} {w : World} {jp p : Nat} {d : DS} {j : JS} (h : JX n X w jp p d j) (k : Int) (hk : k ≤ 1000000000000) :
    Calls Try.prog 20 #[.pointer (some ⟨p, 0, none⟩), .int .i64 k] w fun e w' => e = .returned (.tuple #[]) ∧ JX n X w' jp p (d.fail k) j ∧ KX n X w w' := by
  obtain ⟨hnw, r, rfl, hd, hj, hft, hX⟩ := h
  exact (fail_step hd.disk k hk).mono fun _ _ ⟨he, r', hst⟩ => ⟨he, JX.step rfl hnw hd hj hft hX hst⟩
theorem fail_DX {n : Nat} {X : Nat → Prop} {w : World} {p : Nat} {d : DS} (h : DX n X w p d) (k : Int) (hk : k ≤ 1000000000000) :
    Calls Try.prog 20 #[.pointer (some ⟨p, 0, none⟩), .int .i64 k] w fun e w' => e = .returned (.tuple #[]) ∧ DX n X w' p (d.fail k) ∧ KX n X w w' := by
  obtain ⟨hnw, r, rfl, hd, hft, hX⟩ := h
  exact (fail_step hd k hk).mono fun _ _ ⟨he, r', hst⟩ => ⟨he, DX.step rfl hnw hft hX hst⟩
/-- A crash: a new disk; the old one, and whatever lies beside, as before. -/
theorem crash_X {n : Nat} {X : Nat → Prop} {w : World} {p : Nat} {d : DS} (h : DX n X w p d) (S : Option Addr) (m sc : Nat) (ns : List Int) (hS : IntsAt w S m ns) (hns : ∀ x ∈ ns, -9223372036854775808 ≤ x ∧ x ≤ 9223372036854775807) (hn : d.parts.length ≤ 1000000000) :
    Calls Try.prog 18 #[.pointer (some ⟨p, 0, none⟩), .slice S m sc] w fun e w' => e = .returned (.pointer (some ⟨w.heap.size, 0, none⟩)) ∧ DX n X w' w.heap.size (d.crash ns) ∧ D w.heap.size w' w.heap.size (d.crash ns) ∧ Since w.heap.size w w' := by
  have hx := h.lt
  obtain ⟨hnw, r, rfl, hd, hft, hX⟩ := h
  refine (crash_disk hd S m sc ns hS hns hn).mono ?_
  rintro e w' ⟨he, r', hp, hd', hk, hf⟩
  exact ⟨he, ⟨Nat.le_trans hnw hk.size, r', hp, hd', fun k h1 => Nat.le_trans hnw (hf k h1), fun k h1 => ⟨Nat.lt_of_lt_of_le (hx k h1) hk.size, fun h' => by have := hf k h'; have := hx k h1; omega⟩⟩, ⟨r', hp, hd', hf⟩, Since.of hk⟩

/-! ### Open -/
theorem open_nil (w : World) : Calls Try.prog 12 #[.pointer none] w fun e w' => e = .returned (.tuple #[.pointer none, .slice none 0 0, .int .i64 1]) ∧ Keep (fun _ => False) w w' := by
  have hkk : ∀ o1 o2 o3, Keep (fun _ => False) w (((w.alloc o1).alloc o2).alloc o3) := fun o1 o2 o3 => (((Keep.refl _ w).alloc' _).alloc' _).alloc' _
  have HK := Lib.hid hkk
  clear hkk
  go_enter Try.func12, Try.ntmps12
  go_wp2_with fail
  refine bodyPost_ret (v := .tuple #[.pointer none, .slice none 0 0, .int .i64 1]) (by simp [results, Try.results12, go_sem]) rfl ⟨rfl, ?_⟩
  exact HK.out _ _ _
theorem open_off_X {n : Nat} {X : Nat → Prop} {w : World} {p : Nat} {d : DS} (h : DX n X w p d) (ho : d.off = true) :
    Calls Try.prog 12 #[.pointer (some ⟨p, 0, none⟩)] w fun e w' => e = .returned (.tuple #[.pointer none, .slice none 0 0, .int .i64 70]) ∧ Since w.heap.size w w' := by
  obtain ⟨hnw, r, rfl, hd, hft, hX⟩ := h
  exact (open_off hd ho).mono fun _ _ ⟨he, hk⟩ => ⟨he, Since.of hk⟩
theorem open_wrong_X {n : Nat} {X : Nat → Prop} {w : World} {p : Nat} {d : DS} (h : DX n X w p d) (ho : d.off = false) (hf : d.few 100000000) (hw : openL d.now = none) :
    Calls Try.prog 12 #[.pointer (some ⟨p, 0, none⟩)] w fun e w' => e = .returned (.tuple #[.pointer none, .slice none 0 0, .int .i64 11]) ∧ DX n X w' p d.sync ∧ KX n X w w' := by
  obtain ⟨hnw, r, rfl, hd, hft, hX⟩ := h
  obtain ⟨v, hv⟩ : ∃ v, signed (natL (readL d.now 0 8) 8) = v := ⟨_, rfl⟩
  by_cases hb : signed (natL (readL d.now 0 8) 8) < 0 ∨ 16777216 < signed (natL (readL d.now 0 8) 8) ∨ (0 < signed (natL (readL d.now 0 8) 8) ∧ (d.now.length : Int) < 64 + signed (natL (readL d.now 0 8) 8))
  · exact (open_bad hd ho hf hb).mono fun _ _ ⟨he, r', hst⟩ => ⟨he, DX.step rfl hnw hft hX hst⟩
  · obtain ⟨m, hm, hm1, hm2⟩ := head_right hb
    have hnone : recsF m d.now 64 (64 + m) = none := by
      rw [open_mk hm hm1 (by omega)] at hw
      cases hx : recsF m d.now 64 (64 + m) with
      | none => rfl
      | some l => rw [hx] at hw; cases hw
    have key : ∀ e w', OpenEnd w r d m e w' → e = .returned (.tuple #[.pointer none, .slice none 0 0, .int .i64 11]) ∧ DX n X w' r.p d.sync ∧ KX n X w w' := by
      rintro e w' (⟨_, he, r', hst⟩ | ⟨l, hl, _⟩)
      · exact ⟨he, DX.step rfl hnw hft hX hst⟩
      · rw [hnone] at hl; cases hl
    rcases hm2 with h0 | h0
    · exact (open_zero hd ho hf m hm hm1 h0).mono key
    · exact (open_pos hd ho hf m hm hm1 h0).mono key
theorem open_X {n : Nat} {X : Nat → Prop} {w : World} {p : Nat} {d : DS} (h : DX n X w p d) (ho : d.off = false) (hf : d.few 100000000) {E : Nat} {l : List Bytes} (hw : openL d.now = some (E, l)) :
    Calls Try.prog 12 #[.pointer (some ⟨p, 0, none⟩)] w fun e w' => ∃ jp A c, e = .returned (.tuple #[.pointer (some ⟨jp, 0, none⟩), .slice A l.length c, .int .i64 0]) ∧
      JX n (fun k => X k ∨ ∃ a, A = some a ∧ k = a.block) w' jp p d.sync ⟨l.length, bytesOf l, E, false⟩ ∧ KX n X w w' ∧ StrsAt w' A l.length l ∧ (∀ a, A = some a → w.heap.size ≤ a.block) ∧ (A = none → l.length = 0 ∧ c = 0) ∧ l.length ≤ c := by
  obtain ⟨hnw, r, rfl, hd, hft, hX⟩ := h
  obtain ⟨m, rfl, hm, hm1, hm2, hm3⟩ := open_some hw
  have key : ∀ e w', OpenEnd w r d m e w' → ∃ jp A c, e = .returned (.tuple #[.pointer (some ⟨jp, 0, none⟩), .slice A l.length c, .int .i64 0]) ∧
      JX n (fun k => X k ∨ ∃ a, A = some a ∧ k = a.block) w' jp r.p d.sync ⟨l.length, bytesOf l, 64 + m, false⟩ ∧ KX n X w w' ∧ StrsAt w' A l.length l ∧ (∀ a, A = some a → w.heap.size ≤ a.block) ∧ (A = none → l.length = 0 ∧ c = 0) ∧ l.length ≤ c := by
    rintro e w' (⟨hl, _⟩ | ⟨l', hl, jp, A, c, he, r', hst, hjd, hjp, hA, hA2, hA3⟩)
    · rw [hm3] at hl; cases hl
    · rw [hm3] at hl
      obtain rfl := Option.some.inj hl
      obtain ⟨_, hk⟩ := DX.step (X := X) rfl hnw hft hX hst
      refine ⟨jp, A, c, he, ⟨Nat.le_trans hnw hk.size, r', hst.p, hjd, Nat.le_trans hnw hjp, fun k hk' => ?_, fun k hk' => ?_⟩, hk, hA, fun a ha => (hA2 a ha).1, hA3⟩
      · rcases hst.foot k hk' with h1 | h1
        · exact hft k h1
        · omega
      · rcases hk' with h1 | ⟨a, ha, rfl⟩
        · refine ⟨Nat.lt_of_lt_of_le (hX k h1).1 hk.size, fun h' => ?_, fun e => ?_⟩
          · rcases hst.foot k h' with h2 | h2
            · exact (hX k h1).2 h2
            · have := (hX k h1).1; omega
          · have := (hX k h1).1; omega
        · obtain ⟨h1, h2, h3, h4⟩ := hA2 a ha
          exact ⟨h4, h2, h3⟩
  rcases Nat.eq_zero_or_pos m with h0 | h0
  · exact (open_zero hd ho hf m hm hm1 h0).mono key
  · exact (open_pos hd ho hf m hm hm1 ⟨h0, by omega⟩).mono key
end Go.Proofs.Ytbmmcdnmbdoglaa
