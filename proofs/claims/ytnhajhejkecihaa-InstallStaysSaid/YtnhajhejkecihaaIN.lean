/- Install: machine.New. -/
import Derived.Test.YtnhajhejkecihaaIF
namespace Go.Proofs.Ytnhajhejkecihaa
open Go.RowKit Go.Lib
set_option linter.unusedVariables false
set_option linter.unusedSimpArgs false

/-- A board whose caches are being made. -/
structure NB (w : World) (b : Nat) (k c : Nat) (A : Option Addr) (ms : List Nat) (W : World) : Prop where
  hdr : W.heap[b]? = some (.cells #[.slice (some ⟨w.heap.size, 0, none⟩) 4096 4096, .slice A k c] 78 (0, 0))
  mem : W.ownsRow 0 5 1 (.slice (some ⟨w.heap.size, 0, none⟩) 4096 4096) 4096 (b8 (List.replicate 4096 0))
  row : W.ownsRow w.heap.size 79 1 (.slice A k c) k (ms.map fun m => .map (some m))
  maps : ∀ m ∈ ms, w.heap.size ≤ m ∧ FS Try.prog 3 9 W m (fun _ => none) 0
  nodup : ms.Nodup
  since : Since w.heap.size w W
  low : w.heap.size ≤ b
theorem heap_alloc_new2 (w : World) (o o' : Obj) : ((w.alloc o).alloc o').heap[w.heap.size + 1]? = some o' := by simpa using heap_alloc_new (w.alloc o) o'
theorem maps_one (ms : List Nat) : ∀ u ∈ (ms.map fun m => Value.map (some m)), u.oneCell' = true := by
  intro u hu
  obtain ⟨m, _, rfl⟩ := List.mem_map.1 hu
  rfl
theorem NB.next {w W w2 : World} {b k c g cap : Nat} {A : Option Addr} {ms : List Nat} (h : NB w b k c A ms W) {o : Obj}
    (hown : w2.ownsRow w.heap.size 79 1 (.slice (some ⟨g, 0, none⟩) (k + 1) cap) (k + 1) ((ms.map fun m => Value.map (some m)) ++ [.map (some W.heap.size)])) (hg : ((W.alloc (.map #[] 0)).alloc o).grownBy w2 (Value.slice A k c).ownBlock) :
    NB w b (k + 1) cap (some ⟨g, 0, none⟩) (ms ++ [W.heap.size]) (w2.setCell ⟨b, 1, none⟩ (.slice (some ⟨g, 0, none⟩) (k + 1) cap)) ∧ w2.cell? ⟨b, 1, none⟩ = some (.slice A k c) ∧ w2.frozen? ⟨b, 1, none⟩ = false := by
  have hk : Keep (fun i => (Value.slice A k c).ownBlock = some i) W w2 := (((Keep.refl _ W).alloc (.map #[] 0)).alloc o).grown hg (fun k e => .inl e)
  have hb : w2.heap[b]? = some (.cells #[.slice (some ⟨w.heap.size, 0, none⟩) 4096 4096, .slice A k c] 78 (0, 0)) := (hk.block b (blk_lt h.hdr) (fun e => blk_own_ne h.hdr h.row e (by decide) rfl)).trans h.hdr
  have hs := keep_set (Keep.refl (fun i => i = b) w2) 1 (.slice (some ⟨g, 0, none⟩) (k + 1) cap)
  have hb2 := blk_set hb 1 (.slice (some ⟨g, 0, none⟩) (k + 1) cap)
  have hm2 : w2.ownsRow 0 5 1 (.slice (some ⟨w.heap.size, 0, none⟩) 4096 4096) 4096 (b8 (List.replicate 4096 0)) := hk.own h.mem (fun i e hf => by
    obtain ⟨cur, hc⟩ := own_type h.mem e
    exact blk_own_ne hc h.row hf (by decide) rfl)
  have mapcell : ∀ {U : World} {m n : Nat} {f : Cache} {cs : Array Value} {t : TypeId}, FS Try.prog 3 9 U m f n → U.heap[m]? = some (.cells cs t (0, 0)) → False := fun hf hc => by
    obtain ⟨es, ck, hm⟩ := fs_map hf
    rw [hc] at hm
    cases hm
  have hnew : FS Try.prog 3 9 w2 W.heap.size (fun _ => none) 0 := by
    have h1 := (FS.made (P := Try.prog) (k := 3) (e := 9) W).keep ((Keep.refl (fun _ => False) (W.alloc (.map #[] 0))).alloc' o) id
    exact h1.keep ((Keep.refl (fun i => (Value.slice A k c).ownBlock = some i) _).grown hg (fun k e => .inl e)) (fun e => by have := own_lt h.row _ e; omega)
  have hall : ∀ m ∈ ms ++ [W.heap.size], w.heap.size ≤ m ∧ FS Try.prog 3 9 w2 m (fun _ => none) 0 := fun m hm => by
    rcases List.mem_append.1 hm with hm | hm
    · exact ⟨(h.maps m hm).1, (h.maps m hm).2.keep hk (fun e => by
        obtain ⟨cur, hc⟩ := own_type h.row e
        exact mapcell (h.maps m hm).2 hc)⟩
    · obtain rfl := List.mem_singleton.1 hm
      exact ⟨h.since.size, hnew⟩
  refine ⟨⟨hb2, hs.own hm2 (fun i e hf => blk_own_ne hb hm2 e (by decide) hf), ?_, fun m hm => ⟨(hall m hm).1, (hall m hm).2.keep hs (fun e => by subst e; exact mapcell (hall _ hm).2 hb)⟩, ?_, ?_, h.low⟩, (blk_cell hb 1).trans rfl, blk_free hb 1⟩
  · have := hs.own hown (fun i e hf => blk_own_ne hb hown e (by decide) hf)
    rw [List.map_append]
    exact this
  · rw [List.nodup_append]
    refine ⟨h.nodup, by simp, fun x hx y hy => ?_⟩
    rw [List.mem_singleton.1 hy]
    have := (h.maps x hx).2.lt
    omega
  · exact Keep.trans (Keep.trans h.since (Keep.mono hk (fun i e => own_low h.row e))) (Keep.mono hs (fun i e => by have := h.low; omega))
set_option maxRecDepth 100000 in
set_option maxHeartbeats 4000000 in
theorem board_new (w : World) (n : Nat) (hn : 1 ≤ n ∧ n ≤ 4) : Calls Try.prog 16 #[.int .i64 n] w fun e w' => ∃ b r, e = .returned (.tuple #[.pointer (some ⟨b, 0, none⟩), .int .i64 0]) ∧ IsBoard w' b r (List.replicate 4096 0) (List.replicate n (fun _ => none)) ∧ (∀ k, r.foot b k → w.heap.size ≤ k) ∧ Since w.heap.size w w' := by
  have hmm := @run_makeMap Try.prog
  have hmk : ∀ W : World, (Instr.makeSlice 46 (.int .i64 4096) (.int .i64 4096)).run Try.prog W = .ok (.slice (some ⟨W.heap.size, 0, none⟩) 4096 4096) (W.alloc (.cells (madeCells #[.int .u8 0] 4096) 5)) :=
    fun W => run_make_row' 46 5 (.int .u8 0) 1 Try.bytes.ht Try.bytes.info rfl .i64 .i64 4096 (by omega) (by omega) W
  have hwi : ∀ W, Calls Try.prog 29 #[.int .i64 n, .int .i64 1, .int .i64 4] W fun e w' => e = .returned (.bool true) ∧ W = w' := fun W => by
    have g1 : decide ((1 : Int) ≤ (n : Int)) = true := by simp; omega
    have g2 : decide ((n : Int) ≤ 4) = true := by simp; omega
    have g3 : decide (1 ≤ n) = true := by simp; omega
    have g4 : decide (n ≤ 4) = true := by simp; omega
    clear hmm hmk
    go_enter Try.func29, Try.ntmps29
    go_wp2_with fail
    go_ret
    exact ⟨rfl, rfl⟩
  obtain ⟨j0, gi, gz0, gz1, gz2⟩ := info_parts (show (Try.prog.info? 79).map (fun i => (i.zero, i.size, i.bytes)) = some (some (.map none), 1, 8) by kernel_rfl)
  have GI := Lib.hid gi
  have GZ0 := Lib.hid gz0
  have GZ1 := Lib.hid gz1
  have GZ2 := Lib.hid gz2
  have HW := Lib.hid hwi
  clear gi gz0 gz1 gz2 hwi
  go_enter Try.func16, Try.ntmps16
  go_wp2_with fail
  ((with_reducible refine (HW.out _).mono ?_); rintro e w' ⟨rfl, rfl⟩)
  clear HW
  go_wp2_with fail
  have V0 : Hid (NB w (w.heap.size + 1) 0 0 none [] ((w.alloc (.cells (madeCells #[.int .u8 0] 4096) 5)).alloc (.cells #[.slice (some ⟨w.heap.size, 0, none⟩) 4096 4096, .slice none 0 0] 78))) := by
    have hz : (madeCells #[Value.int .u8 0] 4096).toList = b8 (List.replicate 4096 0) := by rw [toList_madeCells_one, b8_zeros]
    refine Lib.hid ⟨by simpa using heap_alloc_new (w.alloc (.cells (madeCells #[.int .u8 0] 4096) 5)) (.cells #[.slice (some ⟨w.heap.size, 0, none⟩) 4096 4096, .slice none 0 0] 78), ?_, World.ownsRow_nil _ _ _ _, by simp, by simp, Since.of (((Keep.refl (fun _ => False) w).alloc' _).alloc' _), by omega⟩
    have hsz : (madeCells #[Value.int .u8 0] 4096).size = 4096 := by rw [← Array.length_toList, hz, b8_length, List.length_replicate]
    exact ⟨by rw [b8_length, List.length_replicate], .inr ⟨w.heap.size, 4096, madeCells #[.int .u8 0] 4096, rfl, Nat.zero_le _, alloc_old' (heap_alloc_new w _), Nat.le_refl _, by unfold maxLen; omega, by rw [hsz], by rw [hz, List.take_of_length_le (by rw [b8_length, List.length_replicate]; omega)]⟩⟩
  obtain ⟨W0, hW⟩ : ∃ W0, ((w.alloc (.cells (madeCells #[.int .u8 0] 4096) 5)).alloc (.cells #[.slice (some ⟨w.heap.size, 0, none⟩) 4096 4096, .slice none 0 0] 78)) = W0 := ⟨_, rfl⟩
  obtain ⟨b, hb⟩ : ∃ b, w.heap.size + 1 = b := ⟨_, rfl⟩
  rw [hW, hb] at V0
  rw [hW, hb]
  have HNB := Lib.hid (show w.heap.size ≤ b by omega)
  obtain ⟨B0, hB0⟩ : ∃ B0, w.heap.size = B0 := ⟨_, rfl⟩
  have HB0 := Lib.hid hB0
  rw [hB0]
  clear hW hb hmk hB0
  go_loopw [12] (fun i wr => ∃ k : Nat, k ≤ n ∧ i = .int .i64 (k : Int) ∧ ∃ (A : Option Addr) (c : Nat) (ms : List Nat), Hid (NB w b k c A ms wr)) (fun i _ => n + 1 - (intOf i).toNat)
  case atStart => exact ⟨0, Nat.zero_le _, rfl, _, _, _, V0⟩
  case round =>
    obtain ⟨k, hk, rfl, A, c, ms, VV⟩ := hrel
    obtain ⟨wo, rfl⟩ : ∃ wo : World, wo = wr := ⟨_, rfl⟩
    clear V0
    have d1 : wo.cell? ⟨b, 1, none⟩ = some (.slice A k c) := (blk_cell VV.out.hdr 1).trans rfl
    by_cases hlt : k < n
    · have hbb : decide (k < n) = true := by simpa using hlt
      go_wp2_with (at_builtin; go_loud (refine wpList_append_lies _ rfl _ _ _ rfl w.heap.size 79 j0 _ 1 8 Try.underlying76 GI.out GZ0.out GZ1.out GZ2.out rfl (by decide) (.slice A k c) k _ rfl (by exact (VV.out.row.alloc _).alloc _) ⟨_, 0, none⟩ 1 1 _ rfl rfl (by first | exact World.news_of_block (heap_alloc_new _ _) | exact World.news_of_block (heap_alloc_new2 _ _ _)) (by simp [Value.oneCell']) (by omega) (by unfold maxLen; omega) (by omega) (by have := VV.out.since.size; simp; omega) _ rfl ?_); intro g cap w2 hown hgrow hat hlt2; obtain ⟨hn1, hn2, hn3⟩ := VV.out.next hown hgrow; have VN := Lib.hid hn1; clear hown hgrow hat hlt2 hn1)
      exact ⟨⟨k + 1, by omega, by go_num, _, _, _, VN⟩, by simp [intOf]; omega⟩
    · have hbb : decide (k < n) = false := by simpa using hlt
      obtain rfl : k = n := by omega
      go_wp2_with fail
      go_ret2
      have hl : ms.length = k := by simpa using VV.out.row.1
      rcases VV.out.row.2 with ⟨h1, h2⟩ | ⟨g, cap, cur, h1, h2, h3, h4, h5, h6, h7⟩
      · omega
      · injection h1 with e1 _ e3
        subst e1 e3
        refine ⟨b, ⟨w.heap.size, 4096, g, c, ms⟩, rfl, ⟨by rw [List.length_replicate]; exact VV.out.hdr, VV.out.mem, by rw [List.length_replicate]; exact own_zero VV.out.row, fun i hi => ?_, VV.out.nodup, by rw [List.length_replicate]⟩, ?_, VV.out.since⟩
        · rw [List.length_replicate] at hi
          have e : (List.replicate k (fun _ => none : Cache)).getD i (fun _ => none) = fun _ => none := by simp [List.getD_eq_getElem?_getD, List.getElem?_replicate, hi]
          rw [e]
          have hc0 : cnt (fun _ => none) = 0 := by simp [cnt]
          rw [hc0]
          exact (VV.out.maps _ (getD_mem (by rw [hl]; exact hi))).2
        · rintro q (rfl | rfl | rfl | hq)
          · exact VV.out.low
          · exact Nat.le_refl _
          · exact h2
          · exact (VV.out.maps q hq).1
end Go.Proofs.Ytnhajhejkecihaa
