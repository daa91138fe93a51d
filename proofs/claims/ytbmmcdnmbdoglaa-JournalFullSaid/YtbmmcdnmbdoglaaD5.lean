/- One step of a disk. -/
import Derived.Test.YtbmmcdnmbdoglaaD3
import Derived.Deep.RegionLaw
import Derived.IntWalk
namespace Go.Proofs.Ytbmmcdnmbdoglaa
open Go.RowKit
set_option linter.unusedVariables false

/-! ### Strings as lists of bytes -/
def bs (s : ByteArray) : Bytes := s.data.toList
theorem bs_length (s : ByteArray) : (bs s).length = s.size := by
  show s.data.toList.length = s.data.size
  exact Array.length_toList
theorem bs_take (s : ByteArray) (n : Nat) : bs (s.extract 0 n) = (bs s).take n := by
  simp [bs, ByteArray.data_extract, Array.toList_extract, List.extract_eq_take_drop]
theorem bs_drop (s : ByteArray) (n : Nat) : bs (s.extract n s.size) = (bs s).drop n := by
  simp only [bs, ByteArray.data_extract, Array.toList_extract, List.extract_eq_take_drop]
  exact List.take_of_length_le (by rw [List.length_drop, Array.length_toList]; exact Nat.le_refl _)

/-- The bytes that a conversion lays in a new row. -/
theorem cells_conv (w : World) (e : TypeId) (s : ByteArray) (hs : s.size ≤ 9223372036854775807) : CellsAt (Lib.bytesWorld w e s) (some ⟨w.heap.size, 0, none⟩) s.size (b8 (bs s)) := by
  refine ⟨by rw [b8_length, bs_length], hs, fun _ => ⟨w.heap.size, 0, rfl, by rw [Lib.bytesWorld_size]; omega, fun j hj => ?_⟩⟩
  rw [Nat.zero_add, Lib.bytesWorld_cell w e s j hj]
  have hj' : j < (bs s).length := by rw [bs_length]; exact hj
  show some (Value.int .u8 ((bs s).getD j 0).toNat) = (List.map _ (bs s))[j]?
  rw [List.getElem?_map, List.getD_eq_getElem?_getD, List.getElem?_eq_getElem hj']
  rfl
theorem keep_conv (F : Nat → Prop) (w : World) (e : TypeId) (s : ByteArray) : Keep F w (Lib.bytesWorld w e s) :=
  ⟨rfl, rfl, rfl, by rw [Lib.bytesWorld_size]; omega, fun k hk _ => Lib.bytesWorld_at_old w e s k hk⟩

/-! ### One step of a disk -/
structure Step (w : World) (r : Rep) (w' : World) (r' : Rep) (d' : DS) : Prop where
  disk : IsDisk w' r' d'
  p : r'.p = r.p
  keep : Keep r.foot w w'
  foot : ∀ k, r'.foot k → r.foot k ∨ w.heap.size ≤ k
theorem Step.refl {w : World} {r : Rep} {d : DS} (h : IsDisk w r d) : Step w r w r d := ⟨h, rfl, Keep.refl _ _, fun _ h => .inl h⟩
theorem Step.trans {w w1 w2 : World} {r r1 r2 : Rep} {d1 d2 : DS} (h : Step w r w1 r1 d1) (k : Step w1 r1 w2 r2 d2) : Step w r w2 r2 d2 :=
  ⟨k.disk, k.p.trans h.p, h.keep.then k.keep h.foot, fun i hi => by
    rcases k.foot i hi with h1 | h1
    · exact h.foot i h1
    · exact .inr (Nat.le_trans h.keep.size h1)⟩
theorem Step.after {w w1 w2 : World} {r r2 : Rep} {d2 : DS} (h : Keep r.foot w w1) (k : Step w1 r w2 r2 d2) : Step w r w2 r2 d2 :=
  ⟨k.disk, k.p, h.trans k.keep, fun i hi => by
    rcases k.foot i hi with h1 | h1
    · exact .inl h1
    · exact .inr (Nat.le_trans h.size h1)⟩
theorem Step.quiet {w w1 w2 : World} {r r1 : Rep} {d1 : DS} (h : Step w r w1 r1 d1) (k : Keep (fun _ => False) w1 w2) : Step w r w2 r1 d1 :=
  ⟨h.disk.keep k (fun _ _ => id), h.p, h.keep.trans (k.mono (fun _ => False.elim)), h.foot⟩
theorem step_of_keep {w w' : World} {r : Rep} {d' : DS} (h : IsDisk w' r d') (hk : Keep (· = r.p) w w') : Step w r w' r d' :=
  ⟨h, rfl, hk.mono (fun k e => .inl e), fun _ h => .inl h⟩

/-- The contents are written anew. -/
theorem now_turned {w w' : World} {r : Rep} {d : DS} (h : IsDisk w r d) {v : Value} {c : Bytes} (ho : w'.ownsRow 0 5 1 v c.length (b8 c)) (hk : Keep (fun k => r.nv.ownBlock = some k) w w')
    (hv : v.ownBlock = r.nv.ownBlock ∨ ∃ b, v.ownBlock = some b ∧ w.heap.size ≤ b) (hc : c.length ≤ 16777216) :
    Step w r (w'.setCell ⟨r.p, 0, none⟩ v) { r with nv := v } { d with now := c } := by
  have hpne := h.p_ne
  have hb1 : w'.heap[r.p]? = some (.cells #[r.nv, r.sv, r.pv, .int .i64 d.calls, .bool d.failing, .int .i64 d.left] 59 (0, 0)) := (hk.block r.p (blk_lt h.blk) (fun e => hpne.1 _ e rfl)).trans h.blk
  have hk2 : Keep (fun k => k = r.p) w' (w'.setCell ⟨r.p, 0, none⟩ v) := keep_set (Keep.refl _ _) _ _
  have hs1 : ∀ b, r.sv.ownBlock = some b → r.nv.ownBlock ≠ some b := fun b hb e => h.sep1 b e hb
  have hty : ∀ b, r.pv.ownBlock = some b → r.nv.ownBlock ≠ some b := fun b hb hb' => by
    obtain ⟨cur, hc⟩ := own_type h.now hb'
    obtain ⟨cur', hc'⟩ := own_type h.prt hb
    rw [hc] at hc'
    injection hc' with hc'
    injection hc' with _ h2
    exact absurd h2 (by decide)
  refine ⟨⟨blk_set hb1 0 v, hk2.own ho (fun b hb => blk_own_ne hb1 ho hb (by decide)), hk2.own (hk.own h.syn (fun b hb => hs1 b hb)) (fun b hb => hpne.2.1 b hb), hk2.own (hk.own h.prt (fun b hb => hty b hb)) (fun b hb => hpne.2.2 b hb), h.txl, fun i hi => ?_, ?_, ?_, h.sep3, ⟨h.ok.calls, hc, h.ok.syn, h.ok.part, h.ok.left⟩⟩, rfl, ?_, ?_⟩
  · have hm := h.sep2 _ (getD_mem (x := dflA) (by rw [h.txl]; exact hi : i < r.tx.length))
    refine ((h.txt i hi).keep hk (fun b hb => ?_)).keep hk2 (fun b hb => ?_)
    · have := Option.some.inj hb
      rw [← this]; exact hm.1
    · have := Option.some.inj hb
      rw [← this]; exact hm.2.2
  · intro b hb e
    rcases hv with hv | ⟨b', hv, hlt⟩
    · exact h.sep1 b (hv ▸ hb) e
    · have : b = b' := Option.some.inj (hb.symm.trans hv)
      have := own_lt h.syn b e
      omega
  · intro t ht
    refine ⟨fun e => ?_, (h.sep2 t ht).2⟩
    rcases hv with hv | ⟨b', hv, hlt⟩
    · exact (h.sep2 t ht).1 (hv ▸ e)
    · have h1 : t.1.block = b' := Option.some.inj (e.symm.trans hv)
      have := h.txt_lt t ht
      omega
  · exact (hk.mono (fun k h => .inr (.inl h))).then hk2 (fun i hi => .inl (.inl hi))
  · rintro k (hk | hk | hk | hk)
    · exact .inl (.inl hk)
    · rcases hv with hv | ⟨b', hv, hlt⟩
      · exact .inl (.inr (.inl (hv ▸ hk)))
      · have : k = b' := Option.some.inj (hk.symm.trans hv)
        exact .inr (by omega)
    · exact .inl (.inr (.inr (.inl hk)))
    · exact .inl (.inr (.inr (.inr hk)))

/-- One part more. -/
theorem add_step {w w1 w2 : World} {r : Rep} {d : DS} (h : IsDisk w r d) (off : Nat) (t : Bytes) (A : Addr) (c : Nat) {pv' : Value}
    (hA : w.heap.size ≤ A.block) (hk1 : Keep (fun _ => False) w w1)
    (hd : IsDisk w2 { r with pv := pv', tx := r.tx ++ [(A, c)] } { d with parts := d.parts ++ [(off, t)] }) (hk : Keep (fun k => k = r.p ∨ r.pv.ownBlock = some k) w1 w2) (hv : pv'.ownBlock = r.pv.ownBlock ∨ ∃ b, pv'.ownBlock = some b ∧ w1.heap.size ≤ b) :
    Step w r w2 { r with pv := pv', tx := r.tx ++ [(A, c)] } { d with parts := d.parts ++ [(off, t)] } := by
  have hsz := hk1.size
  refine ⟨hd, rfl, (hk1.mono (fun _ => False.elim)).then hk (fun i hi => .inl ?_), ?_⟩
  · rcases hi with rfl | hi
    · exact .inl rfl
    · exact .inr (.inr (.inr (.inl hi)))
  · rintro k (hk | hk | hk | hk | ⟨q, hq, hk⟩)
    · exact .inl (.inl hk)
    · exact .inl (.inr (.inl hk))
    · exact .inl (.inr (.inr (.inl hk)))
    · rcases hv with hv | ⟨b', hv, hlt⟩
      · exact .inl (.inr (.inr (.inr (.inl (hv ▸ hk)))))
      · have : k = b' := Option.some.inj (hk.symm.trans hv)
        exact .inr (by omega)
    · rcases List.mem_append.1 hq with hq | hq
      · exact .inl (.inr (.inr (.inr (.inr ⟨q, hq, hk⟩))))
      · obtain rfl : q = (A, c) := by simpa using hq
        exact .inr (by simp only at hk; omega)
end Go.Proofs.Ytbmmcdnmbdoglaa
