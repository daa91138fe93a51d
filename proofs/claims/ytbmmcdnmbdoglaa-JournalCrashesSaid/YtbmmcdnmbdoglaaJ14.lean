/- The reference journal in memory: New, Fits, Append. -/
import Derived.Test.YtbmmcdnmbdoglaaJ13
namespace Go.Proofs.Ytbmmcdnmbdoglaa
open Go.RowKit
set_option linter.unusedVariables false

structure MS where
  (l maybe : List Bytes)
  (broken : Bool)
  (bytes : Nat)
structure MB (n : Nat) (w : World) (mp : Nat) (R S : Value) (m : MS) : Prop where
  blk : w.heap[mp]? = some (.cells #[R, S, .bool m.broken, .int .i64 (m.bytes : Int)] 38 (0, 0))
  rl : w.ownsRow n 9 1 R m.l.length (strs m.l)
  rm : w.ownsRow n 9 1 S m.maybe.length (strs m.maybe)
  low : n ≤ mp
  q1 : R.ownBlock ≠ some mp
  q2 : S.ownBlock ≠ some mp
  q3 : ∀ k, R.ownBlock = some k → S.ownBlock ≠ some k
def MF (mp : Nat) (R S : Value) (k : Nat) : Prop := k = mp ∨ R.ownBlock = some k ∨ S.ownBlock = some k
def MX (n : Nat) (w : World) (mp : Nat) (m : MS) (X : Nat → Prop) : Prop := ∃ R S, MB n w mp R S m ∧ ∀ k, X k ↔ MF mp R S k
theorem own_blk_lt {w : World} {base : Nat} {e : TypeId} {size n k : Nat} {v : Value} {xs : List Value} (h : w.ownsRow base e size v n xs) (hk : v.ownBlock = some k) : k < w.heap.size := by
  rcases h.2 with ⟨rfl, _⟩ | ⟨g, cap, cur, rfl, hb, hh, _⟩
  · simp [Value.ownBlock] at hk
  · have : g = k := by simpa [Value.ownBlock] using hk
    rw [← this]
    exact blk_lt hh
theorem MB.lt {n mp k : Nat} {w : World} {R S : Value} {m : MS} (h : MB n w mp R S m) (hk : MF mp R S k) : n ≤ k ∧ k < w.heap.size := by
  rcases hk with rfl | h1 | h1
  · exact ⟨h.low, blk_lt h.blk⟩
  · exact ⟨own_low h.rl h1, own_blk_lt h.rl h1⟩
  · exact ⟨own_low h.rm h1, own_blk_lt h.rm h1⟩
theorem MX.lt {n mp : Nat} {w : World} {m : MS} {X : Nat → Prop} (h : MX n w mp m X) : ∀ k, X k → n ≤ k ∧ k < w.heap.size := by
  obtain ⟨R, S, hb, hx⟩ := h
  exact fun k hk => hb.lt ((hx k).1 hk)
theorem MB.keep {n mp : Nat} {w w' : World} {R S : Value} {m : MS} {F : Nat → Prop} (h : MB n w mp R S m) (hk : Keep F w w') (hF : ∀ k, MF mp R S k → ¬ F k) : MB n w' mp R S m :=
  ⟨(hk.block _ (blk_lt h.blk) (hF _ (.inl rfl))).trans h.blk, hk.own h.rl (fun b hb => hF b (.inr (.inl hb))), hk.own h.rm (fun b hb => hF b (.inr (.inr hb))), h.low, h.q1, h.q2, h.q3⟩
theorem MX.keep {n mp : Nat} {w w' : World} {m : MS} {X F : Nat → Prop} (h : MX n w mp m X) (hk : Keep F w w') (hF : ∀ k, X k → ¬ F k) : MX n w' mp m X := by
  obtain ⟨R, S, hb, hx⟩ := h
  exact ⟨R, S, hb.keep hk (fun k hk' => hF k ((hx k).2 hk')), hx⟩
theorem MX.kx {n n' mp : Nat} {w w' : World} {m : MS} {X Y : Nat → Prop} (h : MX n w mp m X) (hk : KX n' Y w w') (hY : ∀ k, X k → Y k) : MX n w' mp m X :=
  h.keep hk (fun k hk' h' => h'.2 (hY k hk'))
theorem MX.since {n mp : Nat} {w w' : World} {m : MS} {X : Nat → Prop} (h : MX n w mp m X) (hs : Since w.heap.size w w') : MX n w' mp m X :=
  h.keep hs (fun k hk h' => by have := (h.lt k hk).2; omega)
theorem MX.cell {n mp : Nat} {w : World} {m : MS} {X : Nat → Prop} (h : MX n w mp m X) : ∃ A c, w.cell? ⟨mp, 0, none⟩ = some (.slice A m.l.length c) := by
  obtain ⟨R, S, hb, _⟩ := h
  obtain ⟨A, c, rfl, _⟩ := owns_cells hb.rl
  exact ⟨A, c, by rw [blk_cell hb.blk]; rfl⟩

theorem new_M (w : World) (n : Nat) (hn : n ≤ w.heap.size) : Calls Try.prog 13 #[] w fun e w' => e = .returned (.pointer (some ⟨w.heap.size, 0, none⟩)) ∧ MX n w' w.heap.size ⟨[], [], false, 0⟩ (fun k => k = w.heap.size) ∧ Since w.heap.size w w' := by
  have HN := Lib.hid hn
  go_enter Try.func13, Try.ntmps13
  go_wp2_with fail
  go_ret
  refine ⟨rfl, ⟨.slice none 0 0, .slice none 0 0, ⟨?_, ?_, ?_, HN.out, by simp [Value.ownBlock], by simp [Value.ownBlock], by simp [Value.ownBlock]⟩, fun k => by simp [MF, Value.ownBlock]⟩, Since.of ((Keep.refl _ _).alloc' _)⟩
  · exact alloc_at rfl
  · exact ⟨rfl, .inl ⟨rfl, rfl⟩⟩
  · exact ⟨rfl, .inl ⟨rfl, rfl⟩⟩
theorem fits_M {w : World} {mp b : Nat} (h : w.cell? ⟨mp, 3, none⟩ = some (.int .i64 (b : Int))) (x : ByteArray) (hx : b + x.size + 16 + 256 ≤ 16777216) :
    Calls Try.prog 33 #[.pointer (some ⟨mp, 0, none⟩), .string x] w fun e w' => e = .returned (.bool true) ∧ w = w' := by
  have b1 : decide ((b : Int) + (x.size : Int) + 16 + 256 ≤ 16777216) = true := by simp; omega
  go_enter Try.func33, Try.ntmps33
  go_wp2_with fail
  go_ret
  exact ⟨by first | rfl | (simp; done) | (simp; omega), rfl⟩

/-- The row of records has grown by one. -/
theorem model_grown {n mp : Nat} {w w2 : World} {S : Value} {A A2 : Option Addr} {c c2 : Nat} {m : MS} {X : Nat → Prop} {x : ByteArray} (hB : MB n w mp (.slice A m.l.length c) S m) (hX : ∀ k, X k ↔ MF mp (.slice A m.l.length c) S k)
    (hbl : w2.heap[mp]? = some (.cells #[.slice A m.l.length c, S, .bool m.broken, .int .i64 (m.bytes : Int)] 38 (0, 0))) (hk2 : Keep (fun k => (Value.slice A m.l.length c).ownBlock = some k) w w2)
    (ho2 : w2.ownsRow n 9 1 (.slice A2 (m.l.length + 1) c2) (m.l.length + 1) (strs m.l ++ [.string x]))
    (hob : (Value.slice A2 (m.l.length + 1) c2).ownBlock = (Value.slice A m.l.length c).ownBlock ∨ (Value.slice A2 (m.l.length + 1) c2).ownBlock = some (w.heap.size + 1)) {v : Value} (hv : v = .int .i64 0) :
    Ending.returned v = Ending.returned (.int .i64 0) ∧ ∃ Y, MX n ((w2.setCell ⟨mp, 0, none⟩ (.slice A2 (m.l.length + 1) c2)).setCell ⟨mp, 3, none⟩ (.int .i64 ((m.bytes : Int) + (x.size : Int) + 16))) mp { m with l := m.l ++ [bs x], bytes := m.bytes + x.size + 16 } Y ∧
      Keep X w ((w2.setCell ⟨mp, 0, none⟩ (.slice A2 (m.l.length + 1) c2)).setCell ⟨mp, 3, none⟩ (.int .i64 ((m.bytes : Int) + (x.size : Int) + 16))) ∧
      ∀ k, Y k → k < ((w2.setCell ⟨mp, 0, none⟩ (.slice A2 (m.l.length + 1) c2)).setCell ⟨mp, 3, none⟩ (.int .i64 ((m.bytes : Int) + (x.size : Int) + 16))).heap.size ∧ (X k ∨ w.heap.size ≤ k) := by
  subst hv
  have hml : mp < w.heap.size := blk_lt hB.blk
  have hb3 := (blk_set (blk_set hbl 0 (.slice A2 (m.l.length + 1) c2)) 3 (.int .i64 ((m.bytes : Int) + (x.size : Int) + 16)))
  have hk3 : Keep (fun k => k = mp) w2 ((w2.setCell ⟨mp, 0, none⟩ (.slice A2 (m.l.length + 1) c2)).setCell ⟨mp, 3, none⟩ (.int .i64 ((m.bytes : Int) + (x.size : Int) + 16))) := ((Keep.refl (fun k => k = mp) w2).setCell (a := ⟨mp, 0, none⟩) (.inl rfl) _).setCell (a := ⟨mp, 3, none⟩) (.inl rfl) _
  obtain ⟨w3, hw3⟩ : ∃ w3, (w2.setCell ⟨mp, 0, none⟩ (.slice A2 (m.l.length + 1) c2)).setCell ⟨mp, 3, none⟩ (.int .i64 ((m.bytes : Int) + (x.size : Int) + 16)) = w3 := ⟨_, rfl⟩
  rw [hw3] at hk3 hb3 ⊢
  have hq1 : (Value.slice A2 (m.l.length + 1) c2).ownBlock ≠ some mp := by
    rcases hob with h | h
    · rw [h]; exact hB.q1
    · rw [h]; intro e; have := Option.some.inj e; omega
  have hq3 : ∀ k, (Value.slice A2 (m.l.length + 1) c2).ownBlock = some k → S.ownBlock ≠ some k := by
    intro k hk e
    rcases hob with h | h
    · rw [h] at hk; exact hB.q3 k hk e
    · rw [h] at hk
      have h1 := Option.some.inj hk
      have h2 := own_blk_lt hB.rm e
      omega
  have hlen : (m.l ++ [bs x]).length = m.l.length + 1 := by simp
  have hst : strs (m.l ++ [bs x]) = strs m.l ++ [.string x] := by simp [strs, sb_bs]
  have hmb : MB n w3 mp (.slice A2 (m.l.length + 1) c2) S { m with l := m.l ++ [bs x], bytes := m.bytes + x.size + 16 } := by
    refine ⟨hb3.trans ?_, ?_, ?_, hB.low, hq1, hB.q2, hq3⟩
    · show _ = some (Obj.cells #[_, S, .bool m.broken, .int .i64 ((m.bytes + x.size + 16 : Nat) : Int)] _ _)
      rw [show ((m.bytes + x.size + 16 : Nat) : Int) = (m.bytes : Int) + (x.size : Int) + 16 by omega]
      rfl
    · show w3.ownsRow n _ 1 _ (m.l ++ [bs x]).length (strs (m.l ++ [bs x]))
      rw [hlen, hst]
      exact hk3.own ho2 (fun b hb e => hq1 (e ▸ hb))
    · exact hk3.own (hk2.own hB.rm (fun b hb h' => hB.q3 b h' hb)) (fun b hb e => hB.q2 (e ▸ hb))
  refine ⟨rfl, _, ⟨_, S, hmb, fun _ => Iff.rfl⟩, Keep.trans (Keep.mono hk2 (fun k hk => (hX k).2 (.inr (.inl hk)))) (Keep.mono hk3 (fun k hk => (hX k).2 (.inl hk))), fun k hk => ⟨(hmb.lt hk).2, ?_⟩⟩
  rcases hk with rfl | h1 | h1
  · exact .inl ((hX _).2 (.inl rfl))
  · rcases hob with h | h
    · rw [h] at h1
      exact .inl ((hX _).2 (.inr (.inl h1)))
    · rw [h] at h1
      have := Option.some.inj h1
      exact .inr (by omega)
  · exact .inl ((hX _).2 (.inr (.inr h1)))

set_option maxHeartbeats 1000000 in
set_option maxRecDepth 100000 in
theorem append_M {n mp : Nat} {w : World} {m : MS} {X : Nat → Prop} (h : MX n w mp m X) (hbr : m.broken = false) (x : ByteArray) (hx : m.bytes + x.size + 16 + 256 ≤ 16777216) (hl : m.l.length ≤ 1000000) (hn : n ≤ w.heap.size) :
    Calls Try.prog 16 #[.pointer (some ⟨mp, 0, none⟩), .string x, .bool true] w fun e w' => e = .returned (.int .i64 0) ∧
      ∃ Y, MX n w' mp { m with l := m.l ++ [bs x], bytes := m.bytes + x.size + 16 } Y ∧ Keep X w w' ∧ ∀ k, Y k → k < w'.heap.size ∧ (X k ∨ w.heap.size ≤ k) := by
  obtain ⟨R, S, hb, hX⟩ := h
  obtain ⟨A, c, rfl, hno, hc⟩ := own_none hb.rl
  have c0 : w.cell? ⟨mp, 0, none⟩ = some (.slice A m.l.length c) := by rw [blk_cell hb.blk]; rfl
  have c2 : w.cell? ⟨mp, 2, none⟩ = some (.bool false) := by rw [blk_cell hb.blk, ← hbr]; rfl
  have c3 : w.cell? ⟨mp, 3, none⟩ = some (.int .i64 (m.bytes : Int)) := by rw [blk_cell hb.blk]; rfl
  have hml : mp < w.heap.size := blk_lt hb.blk
  have HB := Lib.hid hb; have HXX := Lib.hid hX; have HF := Lib.hid (fits_M c3 x hx)
  clear hb hX hno hc
  go_enter Try.func16, Try.ntmps16
  go_wp2_with fail
  ((with_reducible refine HF.out.mono ?_); rintro e wx ⟨rfl, rfl⟩)
  go_wp2_with (at_builtin; refine wpList_append_want (by rfl) 22 9 (.string ⟨#[]⟩) 16 n Try.strs (.tmp 34) (.tmp 36) rfl (.slice A m.l.length c) m.l.length (strs m.l) rfl (by exact (Keep.refl (fun _ => False) w).alloc' _ |>.own HB.out.rl (fun _ _ => id)) (some ⟨w.heap.size, 0, none⟩) 1 1 [.string x] rfl (by intro h; cases h) (cells_new w [.string x] 9) (fun u hu => by cases List.mem_singleton.1 hu; rfl) (by omega) (by decide) (by simp; omega) ?_)
  intro A2 c2' w2 ho2 hg2 hob
  have hk2 : Keep (fun k => (Value.slice A m.l.length c).ownBlock = some k) w w2 := ((Keep.refl _ w).alloc _).grown hg2 (fun k e => .inl e)
  have hblk2 := blk_grown (alloc_old' (o' := .cells #[.string x] 9) HB.out.blk) hg2 HB.out.q1
  have d0 : w2.cell? ⟨mp, 0, none⟩ = some (.slice A m.l.length c) := by rw [blk_cell hblk2]; rfl
  have d3 : w2.cell? ⟨mp, 3, none⟩ = some (.int .i64 (m.bytes : Int)) := by rw [blk_cell hblk2]; rfl
  have f0 := blk_free hblk2 0
  have f3 := blk_free hblk2 3
  have HO2 := Lib.hid ho2; have HK2 := Lib.hid hk2; have HBL := Lib.hid hblk2; have HOB := Lib.hid hob
  clear ho2 hk2 hblk2 hg2 hob c0 c2 c3
  go_wp2_with fail
  go_ret
  exact model_grown HB.out HXX.out HBL.out HK2.out HO2.out HOB.out rfl
end Go.Proofs.Ytbmmcdnmbdoglaa
