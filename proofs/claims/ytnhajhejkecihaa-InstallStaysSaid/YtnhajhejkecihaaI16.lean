/- Install: Act.Module. -/
import Derived.Test.YtnhajhejkecihaaI14
namespace Go.Proofs.Ytnhajhejkecihaa
open Go.RowKit Go.Lib
set_option linter.unusedVariables false
set_option linter.unusedSimpArgs false

/-- The row of bytes while a module is made. -/
structure BM (w : World) (B0 B1 g a n : Nat) (W : World) : Prop where
  act : W.heap[B0]? = some (.cells #[.int .i64 0, .int .i64 a, .int .i64 n] 36 (0, 0))
  res : W.heap[B1]? = some (.cells #[.int .i64 0, .int .i64 0, .string ⟨#[]⟩, .slice none 0 0, .slice none 0 0, .slice none 0 0, .int .i64 0, .int .i64 0, .slice none 0 0] 34 (0, 0))
  row : ∃ l : Bytes, l.length = n ∧ W.heap[g]? = some (.cells (b8 l).toArray 5 (0, 0))
  since : Since w.heap.size w W
  low : w.heap.size ≤ B1 ∧ w.heap.size ≤ g
theorem BM.set {w W : World} {B0 B1 g a n : Nat} (h : BM w B0 B1 g a n W) (k : Nat) (u : UInt8) : BM w B0 B1 g a n (W.setCell ⟨g, k, none⟩ (.int .u8 (u.toNat : Int))) := by
  obtain ⟨l, hl, hr⟩ := h.row
  have ks := keep_set (Keep.refl (fun i => i = g) W) k (.int .u8 (u.toNat : Int))
  refine ⟨(ks.block _ (blk_lt h.act) (cells_ne h.act hr (by decide))).trans h.act, (ks.block _ (blk_lt h.res) (cells_ne h.res hr (by decide))).trans h.res, ⟨l.set k u, by rw [List.length_set]; exact hl, ?_⟩, Keep.trans h.since (Keep.mono ks (fun i e => by have := h.low.2; omega)), h.low⟩
  rw [blk_set hr k _]
  simp [b8, List.map_set]
/-- What the last region of Module reads. -/
structure ML (w : World) (B0 B1 g a : Nat) (l : Bytes) (W : World) : Prop where
  act : ∃ v, W.heap[B0]? = some (.cells #[.int .i64 0, .int .i64 a, v] 36 (0, 0))
  res : W.heap[B1]? = some (.cells #[.int .i64 0, .int .i64 0, .string ⟨#[]⟩, .slice none 0 0, .slice none 0 0, .slice none 0 0, .int .i64 0, .int .i64 0, .slice none 0 0] 34 (0, 0))
  row : W.heap[g]? = some (.cells (b8 l).toArray 5 (0, 0))
  since : Since w.heap.size w W
  low : w.heap.size ≤ B1 ∧ w.heap.size ≤ g
section
variable {w W : World} {B0 B1 g a : Nat} {l : Bytes}
theorem ML.draw (h : ML w B0 B1 g a l W) : ML w B0 B1 g a l W.drew := ⟨h.act, h.res, h.row, Keep.trans h.since (keep_draw _ W), h.low⟩
theorem ML.more (h : ML w B0 B1 g a l W) (o : Obj) : ML w B0 B1 g a l (W.alloc o) := by
  obtain ⟨v, hv⟩ := h.act
  exact ⟨⟨v, alloc_old' hv⟩, alloc_old' h.res, alloc_old' h.row, Keep.trans h.since (Since.of ((Keep.refl (fun _ => False) W).alloc' o)), h.low⟩
theorem ML.a1 (h : ML w B0 B1 g a l W) : W.cell? ⟨B0, 1, none⟩ = some (.int .i64 a) := by
  obtain ⟨v, hv⟩ := h.act
  exact (blk_cell hv 1).trans rfl
theorem ML.conv (h : ML w B0 B1 g a l W) {n : Nat} (hl : l.length = n) : (convert 46 9 (.slice (some ⟨g, 0, none⟩) n n)).run Try.prog W = .ok (.string (sb l)) W := by
  have := run_string_mem (w := W) g 0 n l (fun j hj => by
    rw [Nat.zero_add, blk_cell h.row, List.getElem?_toArray]
    simp [b8, hj])
  rwa [hl] at this
end
theorem mod_ret {w W : World} {B0 B1 g a k : Nat} {l : Bytes} {s : Value} (h : ML w B0 B1 g a l W) (hl : l.length = k) (hs : s.oneCell' = true) (tmps : Array Value) (ht : tmps.getD 2 undef = .pointer (some ⟨B1, 0, none⟩)) :
    bodyPost Try.prog Try.f7 (fun e w' => ∃ b x, List.length b = k ∧ (mcells b x).toArray.all (·.oneCell') = true ∧ e = .returned (modV b x) ∧ Since w.heap.size w w') Exit.ret { tmps := tmps, defers := [] } (W.setRow B1 #[.int .i64 0, .int .i64 0, .string (sb l), s, .slice none 0 0, .slice none 0 0, .int .i64 a, .int .i64 0, .slice none 0 0]) := by
  have hfin := setRow_heap W B1 _ #[.int .i64 0, .int .i64 0, .string (sb l), s, .slice none 0 0, .slice none 0 0, .int .i64 a, .int .i64 0, .slice none 0 0] _ _ h.res
  exact bodyPost_ret (results_cell_row rfl _ _ B1 _ _ _ _ ht hfin Try.underlying34 rfl (by kernel_rfl)) rfl ⟨l, ⟨.int .i64 0, .int .i64 0, s, .slice none 0 0, .slice none 0 0, .int .i64 a, .int .i64 0, .slice none 0 0⟩, hl, by simp [mcells, hs]; simp [Value.oneCell'], rfl, Keep.trans h.since (Keep.mono setRow_keep (fun i e => by have := h.low.1; omega))⟩
set_option maxRecDepth 100000 in
set_option maxHeartbeats 4000000 in
theorem module_any (w : World) (a n : Nat) (ha : a = 3 ∨ a = 5) (hn : 1 ≤ n ∧ n ≤ 60) : Calls Try.prog 7 #[.agg #[.int .i64 0, .int .i64 a, .int .i64 n]] w fun e w' => ∃ (b : Bytes) (x : MX), b.length = n ∧ (mcells b x).toArray.all (·.oneCell') = true ∧ e = .returned (modV b x) ∧ Since w.heap.size w w' := by
  have hmod1 := fun W => mod_small W n 70 (by omega) (by omega)
  have hmod2 := fun W => mod_small W 0 10 (by omega) (by omega)
  have hmod3 := fun W => mod_small W a 9 (by omega) (by omega)
  rw [Nat.mod_eq_of_lt (show n < 70 by omega)] at hmod1
  rw [Nat.mod_eq_of_lt (show a < 9 by omega)] at hmod3
  have M1 : Hid (∀ W, Calls Try.prog 18 #[.int .i64 n, .int .i64 70] W fun e w' => e = .returned (.int .i64 n) ∧ W = w') := Lib.hid hmod1
  have M2 : Hid (∀ W, Calls Try.prog 18 #[.int .i64 0, .int .i64 10] W fun e w' => e = .returned (.int .i64 0) ∧ W = w') := Lib.hid hmod2
  have M3 : Hid (∀ W, Calls Try.prog 18 #[.int .i64 a, .int .i64 9] W fun e w' => e = .returned (.int .i64 a) ∧ W = w') := Lib.hid hmod3
  have hmk : ∀ (W : World), (Instr.makeSlice 46 (.int .i64 (n : Int)) (.int .i64 (n : Int))).run Try.prog W = .ok (.slice (some ⟨W.heap.size, 0, none⟩) n n) (W.alloc (.cells (madeCells #[.int .u8 0] n) 5)) :=
    fun W => run_make_row' 46 5 (.int .u8 0) 1 Try.bytes.ht Try.bytes.info rfl .i64 .i64 n (by omega) (by omega) W
  clear hmod1 hmod2 hmod3
  go_enter Try.func7, Try.ntmps7
  go_wp2_with fail
  ((with_reducible refine (M1.out _).mono ?_); rintro e w' ⟨rfl, rfl⟩)
  go_wp2_with fail
  ((with_reducible refine (M2.out _).mono ?_); rintro e w' ⟨rfl, rfl⟩)
  go_upto_region 5 with (fail)
  have V0 : Hid (BM w w.heap.size (w.heap.size + 1) (w.heap.size + 1 + 1) a n (((w.alloc (.cells #[.int .i64 0, .int .i64 a, .int .i64 n] 36)).alloc (.cells #[.int .i64 0, .int .i64 0, .string ⟨#[]⟩, .slice none 0 0, .slice none 0 0, .slice none 0 0, .int .i64 0, .int .i64 0, .slice none 0 0] 34)).alloc (.cells (madeCells #[.int .u8 0] n) 5))) := by
    refine Lib.hid ⟨alloc_old' (alloc_old' (heap_alloc_new _ _)), alloc_old' (heap_alloc_new2 _ _ _), ⟨List.replicate n 0, by simp, ?_⟩, Since.of ((((Keep.refl (fun _ => False) w).alloc' _).alloc' _).alloc' _), by omega⟩
    have e : madeCells #[Value.int .u8 0] n = (b8 (List.replicate n 0)).toArray := by
      apply Array.ext'
      rw [toList_madeCells_one, b8_zeros]
    rw [e]
    simpa using heap_alloc_new ((w.alloc (.cells #[.int .i64 0, .int .i64 a, .int .i64 n] 36)).alloc (.cells #[.int .i64 0, .int .i64 0, .string ⟨#[]⟩, .slice none 0 0, .slice none 0 0, .slice none 0 0, .int .i64 0, .int .i64 0, .slice none 0 0] 34)) (.cells (b8 (List.replicate n 0)).toArray 5)
  obtain ⟨W0, hW⟩ : ∃ W0, (((w.alloc (.cells #[.int .i64 0, .int .i64 a, .int .i64 n] 36)).alloc (.cells #[.int .i64 0, .int .i64 0, .string ⟨#[]⟩, .slice none 0 0, .slice none 0 0, .slice none 0 0, .int .i64 0, .int .i64 0, .slice none 0 0] 34)).alloc (.cells (madeCells #[.int .u8 0] n) 5)) = W0 := ⟨_, rfl⟩
  obtain ⟨g, hg⟩ : ∃ g, w.heap.size + 1 + 1 = g := ⟨_, rfl⟩
  rw [hW, hg] at V0
  rw [hW, hg]
  obtain ⟨B1, hB1⟩ : ∃ B1, w.heap.size + 1 = B1 := ⟨_, rfl⟩
  obtain ⟨B0, hB0⟩ : ∃ B0, w.heap.size = B0 := ⟨_, rfl⟩
  have V1 : Hid (BM w B0 B1 g a n W0) := Lib.hid (by rw [← hB1, ← hB0]; exact V0.out)
  rw [hB1, hB0]
  clear V0 hW hg hB1 hB0 hmk
  go_wp2_with fail
  go_loopw [5] (fun i wr => ∃ k : Nat, k ≤ n ∧ i = .int .i64 (k : Int) ∧ Hid (BM w B0 B1 g a n wr)) (fun i _ => n + 1 - (intOf i).toNat)
  case atStart => exact ⟨0, Nat.zero_le _, rfl, V1⟩
  case round =>
    obtain ⟨k, hk, rfl, VV⟩ := hrel
    obtain ⟨wo, rfl⟩ : ∃ wo : World, wo = wr := ⟨_, rfl⟩
    clear V1
    have a1 : wo.cell? ⟨B0, 1, none⟩ = some (.int .i64 a) := (blk_cell VV.out.act 1).trans rfl
    by_cases hlt : k < n
    · have hb1 : decide (k < n) = true := by simpa using hlt
      obtain ⟨l, hl, hr⟩ := VV.out.row
      have q1 : ∃ u, wo.cell? ⟨g, k, none⟩ = some u := ⟨_, (blk_cell hr k).trans (Array.getElem?_eq_getElem (by simp [b8_length]; omega))⟩
      obtain ⟨u1, q1⟩ := q1
      have q2 := blk_free hr k
      obtain ⟨u, hu⟩ : ∃ u : UInt8, ((a : Int) + 7 * (k : Int)) % 256 = (u.toNat : Int) := ⟨UInt8.ofNat (a + 7 * k), by simp⟩
      have VN := Lib.hid (VV.out.set k u)
      clear hr hl
      go_wp2_with fail
      exact ⟨⟨k + 1, by omega, by go_num, VN⟩, by simp [intOf]; omega⟩
    · obtain rfl : k = n := by omega
      have hb1 : decide (k < k) = false := by simp
      obtain ⟨l, hl, hr⟩ := VV.out.row
      have L0 : ML w B0 B1 g a l wo := ⟨⟨_, VV.out.act⟩, VV.out.res, hr, VV.out.since, VV.out.low⟩
      go_upto_region 9 with (fail)
      refine wp_region_drewU (S := (fun w' => Hid (ML w B0 B1 g a l w'))) (D := [8]) (by kernel_rfl) (by exact Lib.hid (L0.draw)) (fun hH => ?_)
      refine wpAnyU_take (i := 0) (v := ?_) rfl (by kernel_rfl) (by kernel_rfl) (by kernel_rfl) (by kernel_rfl) (fun _ _ _ h => h) (Or.inl ⟨by rfl, ?_⟩) hH ?_
      rotate_left
      · (intro w'' hSw; (try dsimp only at hSw); go_simp; try with_reducible rfl)
      change wpAnyU _ _ _ _ _ _ _ _ (Act.put _ (some 33) _) _
      try simp only [Act.put, List.setIfInBounds_toArray, List.set_cons_zero, List.set_cons_succ]
      refine wpAnyU_take (i := 1) (v := ?_) rfl (by kernel_rfl) (by kernel_rfl) (by kernel_rfl) (by kernel_rfl) (fun _ _ _ h => h) (Or.inl ⟨by rfl, ?_⟩) hH ?_
      rotate_left
      · (intro w'' hSw; have q := hSw.out.conv hl; go_simp; try with_reducible rfl)
      change wpAnyU _ _ _ _ _ _ _ _ (Act.put _ (some 34) _) _
      try simp only [Act.put, List.setIfInBounds_toArray, List.set_cons_zero, List.set_cons_succ]
      refine wpAnyU_take (i := 2) (v := ?_) rfl (by kernel_rfl) (by kernel_rfl) (by kernel_rfl) (by kernel_rfl) (fun _ _ _ h => h) (Or.inl ⟨by rfl, ?_⟩) hH ?_
      rotate_left
      · (intro w'' hSw; (try dsimp only at hSw); go_simp; try with_reducible rfl)
      change wpAnyU _ _ _ _ _ _ _ _ (Act.put _ (some 35) _) _
      try simp only [Act.put, List.setIfInBounds_toArray, List.set_cons_zero, List.set_cons_succ]
      refine wpAnyU_take (i := 3) (v := ?_) rfl (by kernel_rfl) (by kernel_rfl) (by kernel_rfl) (by kernel_rfl) (fun _ _ _ h => h) (Or.inl ⟨by rfl, ?_⟩) hH ?_
      rotate_left
      · (intro w'' hSw; have q : w''.cell? ⟨B0, 1, none⟩ = some (.int .i64 a) := hSw.out.a1; go_simp; try with_reducible rfl)
      change wpAnyU _ _ _ _ _ _ _ _ (Act.put _ (some 36) _) _
      try simp only [Act.put, List.setIfInBounds_toArray, List.set_cons_zero, List.set_cons_succ]
      refine wpAnyU_take (i := 5) (v := ?_) rfl (by kernel_rfl) (by kernel_rfl) (by kernel_rfl) (by kernel_rfl) (fun _ _ _ h => h) (Or.inl ⟨by rfl, ?_⟩) hH ?_
      rotate_left
      · (intro w'' hSw; (try dsimp only at hSw); go_simp; try with_reducible rfl)
      change wpAnyU _ _ _ _ _ _ _ _ (Act.put _ (some 38) _) _
      try simp only [Act.put, List.setIfInBounds_toArray, List.set_cons_zero, List.set_cons_succ]
      refine wpAnyU_ready (rs := [4, 6]) (by kernel_rfl) (by simp) ?_
      refine AllReadyU.cons rfl (fun Kn hKn => ?_) ?_
      · skip
        go_simp
        go_at_call 18
        (with_reducible refine (M3.out _).mono ?_)
        rintro ee w2 ⟨rfl, rfl⟩
        refine hKn.out _ _ ?_ (fun hH => ?_)
        · (exact hH)
        clear hKn Kn
        try simp only [Act.put, List.setIfInBounds_toArray, List.set_cons_zero, List.set_cons_succ]
        refine wpAnyU_ready (rs := [6]) (by kernel_rfl) (by simp) ?_
        refine AllReadyU.cons rfl (fun Kn hKn => ?_) AllReadyU.nil
        go_simp
        refine hKn.out _ _ ?_ (fun hH => ?_)
        · (exact Lib.hid (hH.out.more _))
        clear hKn Kn
        try simp only [Act.put, List.setIfInBounds_toArray, List.set_cons_zero, List.set_cons_succ]
        refine wpAnyU_take (i := 7) (v := ?_) rfl (by kernel_rfl) (by kernel_rfl) (by kernel_rfl) (by kernel_rfl) (fun _ _ _ h => h) (Or.inl ⟨by rfl, ?_⟩) hH ?_
        rotate_left
        · (intro w'' hSw; (try dsimp only at hSw); go_simp; try with_reducible rfl)
        change wpAnyU _ _ _ _ _ _ _ _ (Act.put _ (some 40) _) _
        try simp only [Act.put, List.setIfInBounds_toArray, List.set_cons_zero, List.set_cons_succ]
        refine wpAnyU_ready (rs := [8]) (by kernel_rfl) (by simp) ?_
        refine AllReadyU.last rfl (by rfl) (fun Kn hKn => ?_) AllReadyU.nil
        refine wp_store_row 34 (.tmp 2) (.tmp 40) rfl B1 34 #[.int .i64 0, .int .i64 0, .string ⟨#[]⟩, .slice none 0 0, .slice none 0 0, .slice none 0 0, .int .i64 0, .int .i64 0, .slice none 0 0] _ rfl rfl (by exact hH.out.res) (by kernel_rfl) rfl (by simp [Value.oneCell']) ?_
        refine hKn.out _ _ ?_
        clear hKn Kn
        try simp only [Act.put, List.setIfInBounds_toArray, List.set_cons_zero, List.set_cons_succ]
        refine wpAnyU_done (by kernel_rfl) ?_ _
        go_wp2_with fail
        exact mod_ret hH.out hl rfl _ rfl
      refine AllReadyU.cons rfl (fun Kn hKn => ?_) ?_
      · skip
        go_simp
        refine hKn.out _ _ ?_ (fun hH => ?_)
        · (exact Lib.hid (hH.out.more _))
        clear hKn Kn
        try simp only [Act.put, List.setIfInBounds_toArray, List.set_cons_zero, List.set_cons_succ]
        refine wpAnyU_ready (rs := [4]) (by kernel_rfl) (by simp) ?_
        refine AllReadyU.cons rfl (fun Kn hKn => ?_) AllReadyU.nil
        go_simp
        go_at_call 18
        (with_reducible refine (M3.out _).mono ?_)
        rintro ee w2 ⟨rfl, rfl⟩
        refine hKn.out _ _ ?_ (fun hH => ?_)
        · (exact hH)
        clear hKn Kn
        try simp only [Act.put, List.setIfInBounds_toArray, List.set_cons_zero, List.set_cons_succ]
        refine wpAnyU_take (i := 7) (v := ?_) rfl (by kernel_rfl) (by kernel_rfl) (by kernel_rfl) (by kernel_rfl) (fun _ _ _ h => h) (Or.inl ⟨by rfl, ?_⟩) hH ?_
        rotate_left
        · (intro w'' hSw; (try dsimp only at hSw); go_simp; try with_reducible rfl)
        change wpAnyU _ _ _ _ _ _ _ _ (Act.put _ (some 40) _) _
        try simp only [Act.put, List.setIfInBounds_toArray, List.set_cons_zero, List.set_cons_succ]
        refine wpAnyU_ready (rs := [8]) (by kernel_rfl) (by simp) ?_
        refine AllReadyU.last rfl (by rfl) (fun Kn hKn => ?_) AllReadyU.nil
        refine wp_store_row 34 (.tmp 2) (.tmp 40) rfl B1 34 #[.int .i64 0, .int .i64 0, .string ⟨#[]⟩, .slice none 0 0, .slice none 0 0, .slice none 0 0, .int .i64 0, .int .i64 0, .slice none 0 0] _ rfl rfl (by exact hH.out.res) (by kernel_rfl) rfl (by simp [Value.oneCell']) ?_
        refine hKn.out _ _ ?_
        clear hKn Kn
        try simp only [Act.put, List.setIfInBounds_toArray, List.set_cons_zero, List.set_cons_succ]
        refine wpAnyU_done (by kernel_rfl) ?_ _
        go_wp2_with fail
        exact mod_ret hH.out hl rfl _ rfl
      exact AllReadyU.nil
end Go.Proofs.Ytnhajhejkecihaa
