/- Install: taken. -/
import Derived.Test.YtnhajhejkecihaaIS
import Derived.Laws.Rows
import Derived.Laws.Tables
import Derived.Deep.Cut
namespace Go.Proofs.Ytnhajhejkecihaa
open Go.RowKit Go.Lib
set_option linter.unusedVariables false

/-- 256 bools. -/
def tk (P : Nat → Bool) : List Value := (List.range 256).map fun k => .bool (P k)
theorem tk_length (P : Nat → Bool) : (tk P).length = 256 := by simp [tk]
theorem tk_at (P : Nat → Bool) {k : Nat} (hk : k < 256) : (tk P)[k]? = some (.bool (P k)) := by simp [tk, hk]
theorem tk_set (P : Nat → Bool) {k : Nat} : (tk P).set k (.bool true) = tk (fun i => decide (i = k) || P i) := by
  apply List.ext_getElem (by simp [tk])
  intro i h1 h2
  have hi : i < 256 := by simpa [tk] using h2
  by_cases hik : k = i
  · subst hik
    simp [tk]
  · rw [List.getElem_set_ne hik]
    have hne : ¬ i = k := fun e => hik e.symm
    simp [tk, hne]
theorem tk_one (P : Nat → Bool) : (tk P).toArray.all (·.oneCell') = true := by
  rw [Array.all_eq_true_iff_forall_mem]
  intro v hv
  simp only [tk, List.mem_toArray, List.mem_map] at hv
  obtain ⟨k, _, rfl⟩ := hv
  rfl
theorem wp_load_row {P : Program} {op : Oper} {a : Act} {w : World} {K : Act → World → Prop} {Q : Exit → Act → World → Prop} (ty : TypeId) (x : Operand) (ho : op.op = .load ty x) (g : Nat) (hx : a.eval x = .pointer (some ⟨g, 0, none⟩))
    (t : TypeId) (cs : Array Value) (fr : Nat × Nat) (d : TypeDesc) (hg : w.heap[g]? = some (.cells cs t fr)) (hu : P.underlying ty = some d) (hd : (match d with | .struct _ | .array _ _ => true | _ => false) = true) (hi : (P.info? ty).map (·.size) = some cs.size)
    (h : K (a.put op.dst (.agg cs)) w) : op.wp P a w K Q := by
  unfold Oper.wp execOp
  simp only [ho, hx, Instr.loadAt, Instr.sureAddr, Sem.run_bind, Sem.run_pure, Result.andThen_ok, run_loadVar_row w g t ty cs fr d hg hu hd hi]
  exact h
theorem wp_store_row {P : Program} {op : Oper} {a : Act} {w : World} {K : Act → World → Prop} {Q : Exit → Act → World → Prop} (ty : TypeId) (x y : Operand) (ho : op.op = .store ty x y) (g : Nat) (t : TypeId) (old cells : Array Value) (hx : a.eval x = .pointer (some ⟨g, 0, none⟩)) (hy : a.eval y = .agg cells)
    (hg : w.heap[g]? = some (.cells old t (0, 0))) (hi : (P.info? ty).map (·.size) = some cells.size) (hs : old.size = cells.size) (h1 : cells.all (·.oneCell') = true) (h : K (a.put op.dst undef) (w.setRow g cells)) : op.wp P a w K Q := by
  unfold Oper.wp execOp
  simp only [ho, hx, hy, Instr.storeAt, Instr.sureAddr, Sem.run_bind, Sem.run_pure, Result.andThen_ok, run_storeVar_row w g t ty old cells hg hi hs h1]
  exact h
theorem wpList_load_row {P : Program} {ops : Array Oper} {rest : List Oper} {op : Oper} {a : Act} {w : World} {Q : Exit → Act → World → Prop} (hgd : op.guard = none) (ty : TypeId) (x : Operand) (ho : op.op = .load ty x) (g : Nat) (hx : a.eval x = .pointer (some ⟨g, 0, none⟩))
    (t : TypeId) (cs : Array Value) (fr : Nat × Nat) (d : TypeDesc) (hg : w.heap[g]? = some (.cells cs t fr)) (hu : P.underlying ty = some d) (hd : (match d with | .struct _ | .array _ _ => true | _ => false) = true) (hi : (P.info? ty).map (·.size) = some cs.size)
    (h : wpList P ops Q rest (a.put op.dst (.agg cs)) w) : wpList P ops Q (op :: rest) a w :=
  wpList_plain hgd fun _ hK => wp_load_row ty x ho g hx t cs fr d hg hu hd hi (hK _ _ h)
theorem wpList_store_row {P : Program} {ops : Array Oper} {rest : List Oper} {op : Oper} {a : Act} {w : World} {Q : Exit → Act → World → Prop} (hgd : op.guard = none) (ty : TypeId) (x y : Operand) (ho : op.op = .store ty x y) (g : Nat) (t : TypeId) (old cells : Array Value) (hx : a.eval x = .pointer (some ⟨g, 0, none⟩)) (hy : a.eval y = .agg cells)
    (hg : w.heap[g]? = some (.cells old t (0, 0))) (hi : (P.info? ty).map (·.size) = some cells.size) (hs : old.size = cells.size) (h1 : cells.all (·.oneCell') = true) (h : wpList P ops Q rest (a.put op.dst undef) (w.setRow g cells)) : wpList P ops Q (op :: rest) a w :=
  wpList_plain hgd fun _ hK => wp_store_row ty x y ho g t old cells hx hy hg hi hs h1 (hK _ _ h)
theorem setRow_keep {w : World} {g : Nat} {cells : Array Value} : Keep (fun k => k = g) w (w.setRow g cells) := ⟨rfl, rfl, rfl, by simp, fun k _ hk => setRow_other w g k _ hk⟩
theorem tk_info (P : Nat → Bool) : (Try.prog.info? 61).map (·.size) = some (tk P).toArray.size := by
  rw [List.size_toArray, tk_length]
  kernel_rfl
/-- The two arrays while the lines are marked. -/
structure TV (w : World) (a b : Nat) (P : Nat → Bool) (W : World) : Prop where
  res : W.heap[a]? = some (.cells (tk fun _ => false).toArray 61 (0, 0))
  arr : W.heap[b]? = some (.cells (tk P).toArray 61 (0, 0))
  since : Since w.heap.size w W
  low : w.heap.size ≤ a ∧ w.heap.size ≤ b
  ne : a ≠ b
theorem TV.quiet {w W W1 : World} {a b : Nat} {P : Nat → Bool} (h : TV w a b P W) (hk : Keep (fun _ => False) W W1) : TV w a b P W1 :=
  ⟨(hk.block a (blk_lt h.res) id).trans h.res, (hk.block b (blk_lt h.arr) id).trans h.arr, Keep.trans h.since (Since.of hk), h.low, h.ne⟩
theorem TV.mark {w W : World} {a b k : Nat} {P Q : Nat → Bool} (h : TV w a b P W) (hQ : ∀ i, Q i = (decide (i = k) || P i)) : TV w a b Q (W.setCell ⟨b, k, none⟩ (.bool true)) := by
  have hk := keep_set (Keep.refl (fun i => i = b) W) k (.bool true)
  have hb := blk_set h.arr k (.bool true)
  rw [List.setIfInBounds_toArray, tk_set, ← show Q = _ from funext hQ] at hb
  exact ⟨(hk.block a (blk_lt h.res) h.ne).trans h.res, hb, Keep.trans h.since (Keep.mono hk (fun i e => by have := h.low.2; omega)), h.low, h.ne⟩
theorem takenB_take (l : List ME) (k i : Nat) (hk : k < l.length) : takenB (l.take (k + 1)) i = (takenB (l.take k) i || (l.getD k ME.dflt).on i) := by
  rw [List.take_add_one, List.getElem?_eq_getElem hk, List.getD_eq_getElem?_getD, List.getElem?_eq_getElem hk]
  exact taken_snoc _ _ _
theorem taken_ret {w wo : World} {R T : Nat} {P : Nat → Bool} (h : TV w R T P wo) (tmps : Array Value) (ht : tmps.getD 2 undef = .pointer (some ⟨R, 0, none⟩)) :
    bodyPost Try.prog Try.f20 (fun e w' => e = .returned (.agg (tk P).toArray) ∧ Since w.heap.size w w') Exit.ret { tmps := tmps, defers := [] } (wo.setRow R (tk P).toArray) := by
  have hfin := setRow_heap wo R _ (tk P).toArray _ _ h.res
  exact bodyPost_ret (results_cell_row rfl _ _ R _ _ _ _ ht hfin Try.underlying61 rfl (tk_info _)) rfl ⟨rfl, Keep.trans h.since (Keep.mono setRow_keep (fun i e => by have := h.low.1; omega))⟩
set_option maxRecDepth 100000 in
set_option maxHeartbeats 4000000 in
theorem taken_any {n : Nat} {w : World} {p : Nat} {r : SR} {s : MS} (h : IsStore n w p r s) : Calls Try.prog 20 #[.pointer (some ⟨p, 0, none⟩)] w fun e w' => e = .returned (.agg (tk (takenB s.all)).toArray) ∧ Since w.heap.size w w' := by
  have H := Lib.hid h
  have hN := h.inv.few
  clear h
  have hzv : ∀ W, (zeroValue 61).run Try.prog W = .ok (.agg (tk fun _ => false).toArray) W := fun W => by kernel_rfl
  obtain ⟨N, hNN⟩ : ∃ N, s.all.length = N := ⟨_, rfl⟩
  have HN := Lib.hid hNN
  go_enter Try.func20, Try.ntmps20
  go_upto_region 2 with (fail)
  have V0 : Hid (TV w w.heap.size (w.heap.size + 1) (fun _ => false) ((w.alloc (.cells (tk fun _ => false).toArray 61)).alloc (.cells (tk fun _ => false).toArray 61))) :=
    Lib.hid ⟨alloc_old' (heap_alloc_new _ _), heap_alloc_new2 _ _ _, Since.of (((Keep.refl (fun _ => False) w).alloc' _).alloc' _), by omega, by omega⟩
  obtain ⟨W0, hW⟩ : ∃ W0, ((w.alloc (.cells (tk fun _ => false).toArray 61)).alloc (.cells (tk fun _ => false).toArray 61)) = W0 := ⟨_, rfl⟩
  rw [hW] at V0
  rw [hW]
  obtain ⟨T, hT⟩ : ∃ T, w.heap.size + 1 = T := ⟨_, rfl⟩
  rw [hT] at V0
  rw [hT]
  obtain ⟨R, hR⟩ : ∃ R, w.heap.size = R := ⟨_, rfl⟩
  have V1 : Hid (TV w R T (fun _ => false) W0) := Lib.hid (hR ▸ V0.out)
  rw [hR]
  clear hW hT hR V0 hzv
  have c2 := (H.out.since V1.out.since).c2
  rw [hNN] at c2 hN
  clear hNN
  go_wp2_with fail
  go_loopw [14] (fun i wr => ∃ k : Nat, k ≤ N ∧ i = .int .i64 (k : Int) ∧ Hid (TV w R T (takenB (s.all.take k)) wr)) (fun i _ => N + 1 - (intOf i).toNat)
  case atStart => exact ⟨0, Nat.zero_le _, rfl, Lib.hid (by have := V1.out; rwa [show takenB (s.all.take 0) = fun _ => false from rfl])⟩
  case round =>
    obtain ⟨k, hk, rfl, VV⟩ := hrel
    obtain ⟨wo, rfl⟩ : ∃ wo : World, wo = wr := ⟨_, rfl⟩
    clear V1 c2
    by_cases hlt : k < N
    · have hb : decide (k < N) = true := by simpa using hlt
      have hkN : k < s.all.length := by rw [HN.out]; exact hlt
      have HS := Lib.hid (H.out.since VV.out.since)
      obtain ⟨g, hg, hp⟩ := HS.out.ptr hkN
      obtain ⟨eb, heb⟩ : ∃ eb, r.es.getD k 0 = eb := ⟨_, rfl⟩
      obtain ⟨e, he⟩ : ∃ e, s.all.getD k ME.dflt = e := ⟨_, rfl⟩
      have e1 := HS.out.ecell hkN 1
      have e4 := HS.out.ecell hkN 4
      rw [heb, he] at e1 e4
      rw [heb] at hp
      rw [hg]
      have hmem : e ∈ s.all := he ▸ getD_mem hkN
      have hsz := H.out.inv.size e hmem
      have HE := Lib.hid (And.intro he hmem)
      obtain ⟨L, hL⟩ : ∃ L, e.bytes.length = L := ⟨_, rfl⟩
      have hst : e.stop = e.a + lns L := by unfold ME.stop; rw [hL]
      have hln := lines_any (w := wo) (b := eb) (L := L) (a := e.a) (v := sb e.bytes) (e1.trans rfl) (e4.trans rfl) (by rw [sb_size, hL]) (by have := hsz.2; rw [hst] at this; unfold lns at this; omega)
      have HL := Lib.hid hln
      clear heb he hln e1 e4 hg hmem
      have hst2 : e.a + lns L ≤ 256 := by rw [← hst]; exact hsz.2
      have HST := Lib.hid hst
      obtain ⟨z, hz⟩ : ∃ z, e.a + lns L = z := ⟨_, rfl⟩
      have haz : e.a ≤ z := by omega
      rw [hz] at HL hst2
      have HZ := Lib.hid hz
      clear hst hsz hz hL
      obtain ⟨a, ha⟩ : ∃ a, e.a = a := ⟨_, rfl⟩
      have HA := Lib.hid ha
      rw [ha] at HL haz
      clear ha
      go_wp2_with fail
      ((with_reducible refine HL.out.mono ?_); rintro ee w1 ⟨rfl, m, rfl⟩)
      have V2 := Lib.hid (VV.out.quiet (keep_drewN (fun _ => False) wo m))
      obtain ⟨w1, hw1⟩ : ∃ w1, wo.drewN m = w1 := ⟨_, rfl⟩
      rw [hw1] at V2
      rw [hw1]
      clear hw1 hp HL
      go_wp2_with fail
      go_loopw [8] (fun i wr => ∃ j : Nat, (a ≤ j ∧ j ≤ z) ∧ i = .int .i64 (j : Int) ∧ Hid (TV w R T (fun x => takenB (s.all.take k) x || (decide (a ≤ x) && decide (x < j))) wr)) (fun i _ => z + 1 - (intOf i).toNat)
      case atStart =>
        refine ⟨a, by omega, rfl, ?_⟩
        have e : (fun x => takenB (s.all.take k) x || (decide (a ≤ x) && decide (x < a))) = takenB (s.all.take k) := by
          funext x
          by_cases h1 : a ≤ x
          · have h2 : decide (x < a) = false := by simpa using h1
            simp [h2]
          · simp [h1]
        rw [e]
        exact V2
      case round =>
        obtain ⟨j, hj, rfl, VI⟩ := hrel
        obtain ⟨wi, rfl⟩ : ∃ wi : World, wi = wr := ⟨_, rfl⟩
        clear V2
        by_cases hlj : j < z
        · have hb2 : decide (j < z) = true := by simpa using hlj
          have f0 := blk_free VI.out.arr j
          have q0 := (blk_cell VI.out.arr j).trans ((List.getElem?_toArray).trans (tk_at _ (show j < 256 by omega)))
          have hj256 : (j : Int) < 256 := by omega
          have VM := Lib.hid (VI.out.mark (k := j) (Q := fun x => takenB (s.all.take k) x || (decide (a ≤ x) && decide (x < j + 1))) (fun x => by
            by_cases hx : x = j
            · subst hx
              simp [hj.1]
            · have e1 : decide (x < j + 1) = decide (x < j) := by rw [decide_eq_decide]; omega
              simp [hx, e1]))
          go_wp2_with fail
          exact ⟨⟨j + 1, by omega, by go_num, VM⟩, by simp [intOf]; omega⟩
        · have hb2 : decide (j < z) = false := by simpa using hlj
          obtain rfl : j = z := by omega
          have VK : Hid (TV w R T (takenB (s.all.take (k + 1))) wi) := by
            have := VI.out
            have e : (fun x => takenB (s.all.take k) x || (decide (a ≤ x) && decide (x < j))) = takenB (s.all.take (k + 1)) := by
              funext x
              rw [takenB_take _ _ _ hkN, HE.out.1]
              unfold ME.on
              rw [HST.out, HZ.out, HA.out]
            rw [e] at this
            exact Lib.hid this
          go_wp2_with fail
          exact ⟨⟨k + 1, by omega, by go_num, VK⟩, by simp [intOf]; omega⟩
    · have hb : decide (k < N) = false := by simpa using hlt
      obtain rfl : k = N := by omega
      have VE : Hid (TV w R T (takenB s.all) wo) := by
        have := VV.out
        rw [List.take_of_length_le (by rw [HN.out]; omega)] at this
        exact Lib.hid this
      go_wp2_with (first | (refine wpList_load_row rfl 61 (.tmp 3) rfl T rfl 61 _ (0, 0) _ VE.out.arr Try.underlying61 rfl (tk_info _) ?_) | (refine wpList_store_row rfl 61 (.tmp 2) (.tmp 32) rfl R 61 _ (tk (takenB s.all)).toArray rfl rfl VE.out.res (tk_info _) (by rw [List.size_toArray, List.size_toArray, tk_length, tk_length]) (tk_one _) ?_))
      exact taken_ret VE.out _ rfl
end Go.Proofs.Ytnhajhejkecihaa
