/- graph: what an exit mentions: an iterator over its frames' variables. -/
import Derived.RangeFuncFrom
import Derived.RangeFuncBox
import Derived.RangeFuncLeaves
import Derived.RangeFuncCalls
import Derived.OwnWalkIn
import Derived.TacticsInMore
import Derived.LoopNIn
import Derived.LoopIn
import Derived.RangeFuncNested
import Derived.Test.YtnbpgipbfejllaaDoorMG6
import Derived.Test.YtnbpgipbfejllaaDoorMK0
import Derived.Maps.OwnSet
import Derived.Maps.StringElems
import Derived.Shelf.GgClosure.StringsIndexFunc
import Derived.Ground.GgwProg
import Derived.Shelf.GgClosure.StringsIndexFuncTop
import Derived.Test.YtnbpgipbfejllaaDoorProg
namespace Go.Proofs.YtnbpgipbfejllaaDoor
open Go.RowKit
set_option linter.unusedVariables false
set_option linter.unusedSimpArgs false
attribute [local go_sem] Oper.semAt_some

/-- What has come: k rows whole, and j of the next. -/
def flatTo (L : List (List Int)) (k j : Nat) : List Int := (L.take k).flatten ++ (L.getD k []).take j
theorem flatTo_zero (L : List (List Int)) : flatTo L 0 0 = [] := by simp [flatTo]
theorem flatTo_succ (L : List (List Int)) (k j : Nat) (h : j < (L.getD k []).length) : flatTo L k (j + 1) = flatTo L k j ++ [(L.getD k []).getD j 0] := by
  unfold flatTo
  rw [List.take_succ_eq_append_getElem h, List.append_assoc, List.getD_eq_getElem?_getD (i := j), List.getElem?_eq_getElem h]
  rfl
theorem flatTo_next (L : List (List Int)) (k : Nat) (h : k < L.length) : flatTo L k (L.getD k []).length = flatTo L (k + 1) 0 := by
  unfold flatTo
  rw [List.take_length, List.take_zero, List.append_nil, List.take_succ_eq_append_getElem h, List.flatten_append, List.getD_eq_getElem?_getD, List.getElem?_eq_getElem h]
  simp
theorem flatTo_end (L : List (List Int)) : flatTo L L.length 0 = L.flatten := by simp [flatTo]
theorem flatTo_lt (L : List (List Int)) (k j : Nat) (hk : k < L.length) (h : j < (L.getD k []).length) : (flatTo L k j).length < L.flatten.length := by
  have h1 : L.flatten = (L.take k).flatten ++ ((L.getD k []) ++ (L.drop (k + 1)).flatten) := by
    conv => lhs; rw [← List.take_append_drop k L]
    rw [List.flatten_append, List.drop_eq_getElem_cons hk, List.flatten_cons, List.getD_eq_getElem?_getD, List.getElem?_eq_getElem hk]
    rfl
  unfold flatTo
  rw [h1, List.length_append, List.length_append, List.length_append, List.length_take]
  omega
def TX.rows (x : TX) : List (List Int) := x.frames.map (·.vars)
theorem RX.Fits.frame3 {w : World} {r : RX} (h : r.Fits w) {k : Nat} (hk : k < r.F.length) : ∃ g o, r.A = some ⟨g, o, none⟩ ∧ ∀ i, i < 3 → w.cell? ⟨g, o + k * 3 + i, none⟩ = some ((r.F.getD k RF.dflt).cells.getD i undef) := by
  obtain ⟨h1, h2, _⟩ := h
  obtain ⟨g, o, e, _, hx⟩ := h1.1.2.2 (by omega)
  refine ⟨g, o, e, fun i hi => ?_⟩
  have h9 := hx (k * 3 + i) (by have : (k + 1) * 3 ≤ r.F.length * 3 := Nat.mul_le_mul_right _ hk; omega)
  rw [Nat.add_assoc, h9, List.getD_eq_getElem?_getD, rowG_at RF.cells_length RF.dflt r.F k i hk hi]
  rfl
theorem RX.Fits.row {w : World} {r : RX} (h : r.Fits w) {k : Nat} (hk : k < r.F.length) : r.x.rows.getD k [] = (r.F.getD k RF.dflt).x.vars ∧ k < r.x.rows.length := by
  unfold TX.rows
  rw [← h.2.2]
  simp [List.getD_eq_getElem?_getD, List.getElem?_map, List.getElem?_eq_getElem hk, hk]
/-- The blocks that the body of the loop may turn. -/
def FB8 (w : World) (B : Nat) (k : Nat) : Prop := k = B ∨ w.heap.size ≤ k
set_option maxRecDepth 100000 in
set_option maxHeartbeats 4000000 in
theorem ment1_in (n : Nat) (hn : 1 ≤ n) (l Bs B8 : Nat) (r : RX) {w W : World} (hW : Below w.heap.size w W) (hf : r.Fits w) (hl : r.F.length ≤ 1000) (hv : ∀ f ∈ r.F, f.x.vars.length ≤ 1000000)
    (hB : w.heap[Bs]? = some (.cells r.cells.toArray 83 (0, 0))) (hne : Bs ≠ B8) (h8 : ∀ cur, w.heap[B8]? ≠ some (.cells cur 3 (0, 0)) ∧ w.heap[B8]? ≠ some (.cells cur 95 (0, 0)))
    (J Jx : List Int → World → Prop)
    (hY : ∀ pre x W1, x ∈ r.x.rows.flatten → J pre W1 → pre.length < r.x.rows.flatten.length → YieldAt Fence.wide (n - 1) Tryd.prog l #[.int .i64 x] W1 fun e W' =>
      (e = .returned (.bool true) ∧ J (pre ++ [x]) W' ∧ Keep (FB8 w B8) W1 W') ∨ (e = .returned (.bool false) ∧ Jx (pre ++ [x]) W'))
    (hJa : ∀ pre W1 o, J pre W1 → J pre (W1.alloc o)) (h0 : J [] W) :
    CallsIn Fence.wide n Tryd.prog 60 #[.func (.yield l) #[] #[], .pointer (some ⟨Bs, 0, none⟩)] W fun e W' => (∃ v, e = .returned v) ∧
      ((∃ ys, ys = r.x.rows.flatten ∧ J ys W') ∨ (∃ pre, True ∧ Jx pre W')) := by
  have HKW := Lib.hid (show Keep (FB8 w B8) w W from ⟨hW.os, hW.tape, hW.output, hW.size, fun k hk hn => hW.block k hk⟩)
  have hnI : ∀ g cur, w.heap[g]? = some (.cells cur 3 (0, 0)) → ¬ FB8 w B8 g := by
    rintro g cur hg (e | e)
    · subst e; exact (h8 cur).1 hg
    · have := blk_lt hg; omega
  have hnF : ∀ g cur, w.heap[g]? = some (.cells cur 95 (0, 0)) → ¬ FB8 w B8 g := by
    rintro g cur hg (e | e)
    · subst e; exact (h8 cur).2 hg
    · have := blk_lt hg; omega
  have HFK := Lib.hid (fun W1 (hk : Keep (FB8 w B8) w W1) => RX.Fits.keep hf hk hnI hnF)
  have HBK := Lib.hid (fun W1 (hk : Keep (FB8 w B8) w W1) => (hk.block Bs (blk_lt hB) (fun e => e.elim hne (fun e => by have := blk_lt hB; omega))).trans hB)
  have HY := Lib.hid hY
  have HA := Lib.hid hJa
  have HV := Lib.hid hv
  have HR := Lib.hid (fun k (hk : k < r.F.length) => RX.Fits.row hf hk)
  have HEQ := Lib.hid (show r.x.rows.length = r.F.length by unfold TX.rows; rw [← hf.2.2]; simp)
  clear hY hJa hv hnI hnF hB hne h8 hf hW
  obtain ⟨x, A, c, F⟩ := r
  unfold RX.cells at HBK
  dsimp only at HBK HEQ hl HR HV ⊢
  obtain ⟨N, hN⟩ : ∃ N, F.length = N := ⟨_, rfl⟩
  rw [hN] at HBK HEQ hl HR
  have HN := Lib.hid hN
  clear hN
  refine callsIn_of_wp Tryd.func60 rfl trivial ?_ rfl
  simp only [Tryd.ntmps60, List.size_toArray, List.length_cons, List.length_nil, Nat.reduceAdd, Nat.reduceSub, Array.replicate_succ, Array.replicate_zero, List.push_toArray, List.append_toArray, List.nil_append, List.cons_append]
  have q0 := (blk_cell (HBK.out _ HKW.out) 0).trans rfl
  gi_wp2
  gi_loopw [14] (fun i wr => ∃ k : Nat, k ≤ N ∧ i = .int .i64 (k : Int) ∧ Hid (J (flatTo x.rows k 0) wr ∧ Keep (FB8 w B8) w wr)) (fun i _ => N - (RowKit.intOf i).toNat)
  case atStart => exact ⟨0, Nat.zero_le _, rfl, Lib.hid ⟨by rw [flatTo_zero]; exact h0, HKW.out⟩⟩
  case round =>
    obtain ⟨k, hk, rfl, HJ⟩ := hrel
    by_cases hlt : k < N
    · obtain ⟨g, o, rfl, hc⟩ := (HFK.out _ HJ.out.2).frame3 (k := k) (by rw [HN.out]; exact hlt)
      have hfr := (HFK.out _ HJ.out.2).2.1 _ (getD_mem (show k < F.length by rw [HN.out]; exact hlt) : F.getD k RF.dflt ∈ F)
      have hvl := HV.out _ (getD_mem (show k < F.length by rw [HN.out]; exact hlt) : F.getD k RF.dflt ∈ F)
      obtain ⟨hrw, hkl⟩ := HR.out k hlt
      obtain ⟨fr, hfe⟩ : ∃ fr, F.getD k RF.dflt = fr := ⟨_, rfl⟩
      rw [hfe] at hc hfr hvl hrw
      obtain ⟨⟨fn, ln, vars⟩, Av, cv⟩ := fr
      dsimp only at hc hfr hvl hrw
      have z0 : wr.cell? ⟨g, o + k * 3, none⟩ = some (.int .i64 fn) := (hc 0 (by omega)).trans rfl
      have z1 : wr.cell? ⟨g, o + k * 3 + 1, none⟩ = some (.int .i64 ln) := (hc 1 (by omega)).trans rfl
      have z2 : wr.cell? ⟨g, o + k * 3 + 2, none⟩ = some (.slice Av vars.length cv) := (hc 2 (by omega)).trans rfl
      have HRW := Lib.hid hrw
      have HKL := Lib.hid hkl
      have HFF := Lib.hid (fun W1 (hk : Keep (FB8 w B8) w W1) => (HFK.out W1 hk).2.1 _ (getD_mem (show k < F.length by rw [HN.out]; exact hlt) : F.getD k RF.dflt ∈ F))
      rw [hfe] at HFF
      replace HFF : Hid (∀ W1, Keep (FB8 w B8) w W1 → IntsAt W1 Av vars.length vars) := Lib.hid (fun W1 hk => (HFF.out W1 hk).1)
      obtain ⟨M, hM⟩ : ∃ M, vars.length = M := ⟨_, rfl⟩
      rw [hM] at z2 HFF hvl
      have HM := Lib.hid hM
      have HBO := Lib.hid (HA.out _ wr (.cells #[.int .i64 fn, .int .i64 ln, .slice Av M cv] 95) HJ.out.1)
      have HKO := Lib.hid (Keep.trans HJ.out.2 (Keep.mono ((Keep.refl (fun _ => False) wr).alloc' (.cells #[.int .i64 fn, .int .i64 ln, .slice Av M cv] 95)) (fun _ h => h.elim)))
      clear hc hfr hfe hM hrw hkl
      gi_wp2
      gi_loopw [21] (fun i wr2 => ∃ j : Nat, j ≤ M ∧ i = .int .i64 (j : Int) ∧ Hid (J (flatTo x.rows k j) wr2 ∧ Keep (FB8 w B8) w wr2)) (fun i _ => M - (RowKit.intOf i).toNat)
      case atStart => exact ⟨0, Nat.zero_le _, rfl, Lib.hid ⟨HBO.out, HKO.out⟩⟩
      case round =>
        obtain ⟨j, hj, rfl, HJ2⟩ := hrel
        obtain ⟨wo, rfl⟩ : ∃ wo : World, wo = wr := ⟨_, rfl⟩
        by_cases hjt : j < M
        · obtain ⟨b, o2, rfl, x0⟩ := (HFF.out _ HJ2.out.2).at_ j hjt
          obtain ⟨y, hy⟩ : ∃ y, vars.getD j 0 = y := ⟨_, rfl⟩
          rw [hy] at x0
          have HYM := Lib.hid (show y ∈ x.rows.flatten from List.mem_flatten.2 ⟨x.rows.getD k [], getD_mem HKL.out, by rw [HRW.out, ← hy]; exact getD_mem (by rw [HM.out]; exact hjt)⟩)
          have hjl : j < (x.rows.getD k []).length := by rw [HRW.out, HM.out]; exact hjt
          have HE := Lib.hid (show flatTo x.rows k (j + 1) = flatTo x.rows k j ++ [y] from by rw [flatTo_succ _ _ _ hjl, HRW.out, hy])
          obtain ⟨fn2, tmps, assign, body, hyy, hR⟩ := HY.out (flatTo x.rows k j) y wo HYM.out HJ2.out.1 (flatTo_lt _ _ _ HKL.out hjl)
          have HR2 := Lib.hid hR
          clear hR hy hjl
          gi_wp2
          refine HR2.out.mono ?_
          rintro e1 W3 (⟨rfl, hJ3, hk3⟩ | ⟨rfl, hJx3⟩)
          · have HJ3 := Lib.hid (show J (flatTo x.rows k (j + 1)) W3 ∧ Keep (FB8 w B8) w W3 from ⟨by rw [HE.out]; exact hJ3, Keep.trans HJ2.out.2 hk3⟩)
            clear hJ3 hk3
            gi_wp2
            go_roundw
            case rel => exact ⟨j + 1, by omega, by simp, HJ3⟩
            case measure => simp [RowKit.intOf]; omega
          · have HJ3 := Lib.hid hJx3
            clear hJx3
            gi_wp2
            refine bodyPost_ret (results_none rfl _ _ _) rfl ?_
            exact ⟨⟨_, rfl⟩, .inr ⟨_, trivial, HJ3.out⟩⟩
        · obtain rfl : j = M := by omega
          have HE := Lib.hid (show flatTo x.rows k j = flatTo x.rows (k + 1) 0 from by rw [← flatTo_next _ _ HKL.out, HRW.out, HM.out])
          gi_wp2
          go_roundw
          case rel => exact ⟨k + 1, by omega, by simp, Lib.hid ⟨by rw [← HE.out]; exact HJ2.out.1, HJ2.out.2⟩⟩
          case measure => simp [RowKit.intOf]; omega
    · obtain rfl : k = N := by omega
      have HE := Lib.hid (show flatTo x.rows k 0 = x.rows.flatten from by rw [← HEQ.out]; exact flatTo_end _)
      have q1 := (blk_cell (HBK.out _ HJ.out.2) 1).trans rfl
      gi_wp2
      gi_loopw [34] (fun i wr2 => i = .int .i64 0 ∧ wr2 = wr) (fun i _ => 0)
      case atStart => exact ⟨rfl, rfl⟩
      case round =>
        obtain ⟨rfl, rfl⟩ := hrel
        gi_wp2
        go_end0
        exact ⟨⟨_, rfl⟩, .inl ⟨_, rfl, by rw [← HE.out]; exact HJ.out.1⟩⟩
theorem ment_stops (n : Nat) (hn : 1 ≤ n) (Bs B8 : Nat) (r : RX) {w : World} (hf : r.Fits w) (hl : r.F.length ≤ 1000) (hv : ∀ f ∈ r.F, f.x.vars.length ≤ 1000000)
    (hB : w.heap[Bs]? = some (.cells r.cells.toArray 83 (0, 0))) (hne : Bs ≠ B8) (h8 : ∀ cur, w.heap[B8]? ≠ some (.cells cur 3 (0, 0)) ∧ w.heap[B8]? ≠ some (.cells cur 95 (0, 0)))
    (Pr : Int → Prop) (hP : ∀ x ∈ r.x.rows.flatten, Pr x) :
    SeqStopsK Fence.wide n Tryd.prog 60 #[.pointer (some ⟨Bs, 0, none⟩)] (fun x : {x : Int // Pr x} => #[Value.int .i64 x.1]) (Keep (FB8 w B8)) (fun ys => ys.map (·.1) = r.x.rows.flatten) (fun _ => True) r.x.rows.flatten.length w := by
  intro l J Jx W hW hJ _ hY h0
  refine (ment1_in n hn l Bs B8 r hW hf hl hv hB hne h8 (fun pre W => ∃ l : List {x : Int // Pr x}, l.map (·.1) = pre ∧ J l W) (fun pre W => ∃ l : List {x : Int // Pr x}, l.map (·.1) = pre ∧ Jx l W) ?_ ?_ ⟨[], rfl, h0⟩).mono ?_
  · rintro pre x W1 hx ⟨l', rfl, hj⟩ hlt
    obtain ⟨fn, tmps, assign, body, h1, h2⟩ := hY l' ⟨x, hP x hx⟩ W1 hj (by simpa using hlt)
    refine ⟨fn, tmps, assign, body, h1, h2.mono ?_⟩
    rintro e W' (⟨a, b, c⟩ | ⟨a, b⟩)
    · exact .inl ⟨a, ⟨l' ++ [⟨x, hP x hx⟩], by simp, b⟩, c⟩
    · exact .inr ⟨a, ⟨l' ++ [⟨x, hP x hx⟩], by simp, b⟩⟩
  · rintro pre W1 o ⟨l', e, hj⟩
    exact ⟨l', e, hJ l' W1 _ none hj (World.grownBy_alloc _ _ _) (fun r e => by cases e)⟩
  · rintro e W' ⟨hv, ⟨ys, h1, l', h2, h3⟩ | ⟨pre, _, l', h2, h3⟩⟩
    · exact ⟨hv, .inl ⟨l', h2.trans h1, h3⟩⟩
    · exact ⟨hv, .inr ⟨l', trivial, h3⟩⟩
theorem mentioned_any (r : RX) (w : World) : Calls Tryd.prog 40 #[.agg r.cells.toArray] w fun e w' => e = .returned (.func (.func 60) #[] #[.pointer (some ⟨w.heap.size, 0, none⟩)]) ∧ w' = w.alloc (.cells r.cells.toArray 83) := by
  obtain ⟨x, A, c, F⟩ := r
  unfold RX.cells
  dsimp only
  go_enter Tryd.func40, Tryd.ntmps40
  go_wp2_with fail
  go_ret
  exact ⟨rfl, rfl⟩
end Go.Proofs.YtnbpgipbfejllaaDoor
/- Maps keyed by ints, told as functions: of bools that are all true, and of strings. -/
namespace Go.Proofs.YtnbpgipbfejllaaDoor
open Go.RowKit Go.Maps
set_option linter.unusedVariables false

section
variable {P : Program} {k e t : TypeId} {w w' : World} {b c : Nat}
theorem wf64 {i : Int} (h : -9223372036854775808 ≤ i ∧ i ≤ 9223372036854775807) : (Lit.int .i64 i).wf = true := by
  have h1 : IntKind.i64.min = -9223372036854775808 := by decide
  have h2 : IntKind.i64.max = 9223372036854775807 := by decide
  simp [Lit.wf]
  omega
theorem owns_tight {H : Type} {R : Value → Option (DataW H × List MemPlace)} {n : Nat} {D : DataW H} (h : w.ownsMap P k R b n D) : w.ownsMap P k R b (Maps.size D) D := by
  obtain ⟨es, clock, hb, F, hs, hD⟩ := h
  refine ⟨es, clock, hb, F, ?_, hD⟩
  subst hD
  simp [Maps.size, length_sorted]
theorem owns_keep {H : Type} {R : Value → Option (DataW H × List MemPlace)} {n : Nat} {D : DataW H} {F : Nat → Prop} (h : w.ownsMap P k R b n D) (hk : Keep F w w') (hb : ¬ F b) : w'.ownsMap P k R b n D := by
  have hlt := h.lt
  obtain ⟨es, clock, h1, r⟩ := h
  exact ⟨es, clock, (hk.block b hlt hb).trans h1, r⟩
theorem turned_keep (h : w.mapTurned w' b) : Keep (fun i => i = b) w w' := (Keep.refl _ w).grown h.grown (fun k e => .inl (Option.some.inj e).symm)
theorem elem_bool {H : Type} (he : P.underlying e = some .bool) {v : Value} {x : Bool} {ps : List MemPlace} (h : plainElem (H := H) P e v = some (.lit (.bool x), ps)) : v = .bool x := by
  unfold plainElem at h
  rw [he] at h
  cases v <;> simp at h
  rw [h.1]
theorem elem_string {H : Type} (he : P.underlying e = some .string) {v : Value} {l : List UInt8} {ps : List MemPlace} (h : plainElem (H := H) P e v = some (.lit (.string l), ps)) : v = .string ⟨l.toArray⟩ := by
  unfold plainElem at h
  rw [he] at h
  cases v with
  | string s =>
    simp at h
    obtain ⟨_, h, _⟩ := h
    rw [← h]
  | _ => simp at h

/-- A map of bools, all of them true: S tells which keys there are, c how many. -/
def FB (P : Program) (k e : TypeId) (w : World) (b : Nat) (S : Int → Bool) (c : Nat) : Prop :=
  ∃ D : DataW Unit, w.ownsMap P k (plainElem P e) b c D ∧ Maps.size D = c ∧ ∀ i : Int, (Lit.int .i64 i).wf = true → Maps.has D (.int .i64 i) = S i ∧ (S i = true → ∀ z, D.atKey (.int .i64 i) z = .lit (.bool true))
variable {S : Int → Bool}
theorem FB.lt (h : FB P k e w b S c) : b < w.heap.size := let ⟨_, h, _⟩ := h; h.lt
theorem FB.made (w : World) : FB P k e (w.alloc (.map #[] 0)) w.heap.size (fun _ => false) 0 :=
  ⟨.map [], World.ownsMap_made w P k _, rfl, fun i _ => ⟨rfl, fun h => Bool.noConfusion h⟩⟩
theorem FB.keep {F : Nat → Prop} (h : FB P k e w b S c) (hk : Keep F w w') (hb : ¬ F b) : FB P k e w' b S c := let ⟨D, h1, h2, h3⟩ := h; ⟨D, owns_keep h1 hk hb, h2, h3⟩
theorem FB.look (h : FB P k e w b S c) (hk : P.underlying k = some (.int .i64)) (ht : P.underlying t = some (.map k e)) (he : P.underlying e = some .bool) (hz : (zeroValue e).run P w = .ok (.bool false) w) {i : Int} (hi : (Lit.int .i64 i).wf = true) :
    (Instr.lookup t (.map (some b)) (.int .i64 i) false).run P w = .ok (.bool (S i)) w := by
  obtain ⟨D, h1, h2, h3⟩ := h
  obtain ⟨v, ps, hrun, hv⟩ := h1.lookup (int_keyed hk) ht hz (plainElem_bool he false) (keyOf_int_mk hk hi)
  cases hS : S i with
  | true =>
    rw [(h3 i hi).2 hS] at hv
    rw [hrun, elem_bool he hv]
  | false =>
    rw [atKey_of_not_has ((h3 i hi).1.trans hS)] at hv
    rw [hrun, elem_bool he hv]
theorem key_ne {i j : Int} (h : j ≠ i) : (Lit.int .i64 j) ≠ (Lit.int .i64 i) := fun e => h (by injection e)
theorem FB.put (h : FB P k e w b S c) (hk : P.underlying k = some (.int .i64)) (ht : P.underlying t = some (.map k e)) (he : P.underlying e = some .bool) (hc : c < maxLen) {i : Int} (hi : (Lit.int .i64 i).wf = true) :
    ∃ w', (Instr.mapUpdate t (.map (some b)) (.int .i64 i) (.bool true)).run P w = .ok () w' ∧ FB P k e w' b (fun j => j == i || S j) (if S i then c else c + 1) ∧ Keep (fun j => j = b) w w' := by
  obtain ⟨D, h1, h2, h3⟩ := h
  obtain ⟨w', hrun, ho, hg⟩ := h1.store (int_keyed hk) ht hc (keyOf_int_mk hk hi) (plainElem_bool he true)
  have hkl : WideAt.IsKeyLit (.int .i64 i) := trivial
  have hsz : Maps.size (D.put (.int .i64 i) (.lit (.bool true))) = if S i then c else c + 1 := by
    rw [size_put (h1.tidy (int_keyed hk)), (h3 i hi).1, h2]
  refine ⟨w', hrun, ⟨_, hsz ▸ owns_tight ho, hsz, fun j hj => ?_⟩, turned_keep hg⟩
  by_cases hji : j = i
  · subst hji
    exact ⟨by rw [has_put_same h1.isMap hkl]; simp, fun _ z => atKey_put_same h1.isMap hkl _ z⟩
  · refine ⟨by rw [has_put_other (key_ne hji), (h3 j hj).1]; simp [hji], fun hs z => ?_⟩
    rw [atKey_put_other (key_ne hji)]
    exact (h3 j hj).2 (by simpa [hji] using hs) z
theorem FB.del (h : FB P k e w b S c) (hk : P.underlying k = some (.int .i64)) (ht : P.underlying t = some (.map k e)) {i : Int} (hi : (Lit.int .i64 i).wf = true) (ty : TypeId) :
    ∃ w', (Builtin.delete_ #[t, k] ty #[.map (some b), .int .i64 i]).run P w = .ok (.tuple #[]) w' ∧ FB P k e w' b (fun j => !(j == i) && S j) (if S i then c - 1 else c) ∧ Keep (fun j => j = b) w w' := by
  obtain ⟨D, h1, h2, h3⟩ := h
  obtain ⟨w', hrun, ho, hg⟩ := h1.drop (int_keyed hk) ht (keyOf_int_mk hk hi) ty
  have hsz : Maps.size (D.del (.int .i64 i)) = if S i then c - 1 else c := by
    have := size_del (k := .int .i64 i) (h1.tidy (int_keyed hk))
    rw [(h3 i hi).1, h2] at this
    split <;> simp_all <;> omega
  refine ⟨w', hrun, ⟨_, hsz ▸ owns_tight ho, hsz, fun j hj => ?_⟩, turned_keep hg⟩
  by_cases hji : j = i
  · subst hji
    exact ⟨by rw [has_del_same]; simp, fun hs => by simp at hs⟩
  · refine ⟨by rw [has_del_other (key_ne hji), (h3 j hj).1]; simp [hji], fun hs z => ?_⟩
    rw [atKey_del_other (key_ne hji)]
    exact (h3 j hj).2 (by simpa [hji] using hs) z
theorem FB.len (h : FB P k e w b S c) (ht : P.underlying t = some (.map k e)) (ty : TypeId) : (Builtin.len_ #[t] ty #[.map (some b)]).run P w = .ok (.int .i64 (c : Int)) w := by
  obtain ⟨D, h1, h2, h3⟩ := h
  rw [h1.len ht ty, h2]

/-- A map of strings. -/
def FS (P : Program) (k e : TypeId) (w : World) (b : Nat) (f : Int → Option (List UInt8)) (c : Nat) : Prop :=
  ∃ D : DataW Unit, w.ownsMap P k (plainElem P e) b c D ∧ Maps.size D = c ∧ ∀ i : Int, (Lit.int .i64 i).wf = true → Maps.has D (.int .i64 i) = (f i).isSome ∧ (∀ l, f i = some l → ∀ z, D.atKey (.int .i64 i) z = .lit (.string l))
variable {f : Int → Option (List UInt8)}
theorem FS.lt (h : FS P k e w b f c) : b < w.heap.size := let ⟨_, h, _⟩ := h; h.lt
theorem FS.made (w : World) : FS P k e (w.alloc (.map #[] 0)) w.heap.size (fun _ => none) 0 :=
  ⟨.map [], World.ownsMap_made w P k _, rfl, fun i _ => ⟨rfl, fun l h => by cases h⟩⟩
theorem FS.keep {F : Nat → Prop} (h : FS P k e w b f c) (hk : Keep F w w') (hb : ¬ F b) : FS P k e w' b f c := let ⟨D, h1, h2, h3⟩ := h; ⟨D, owns_keep h1 hk hb, h2, h3⟩
theorem FS.look (h : FS P k e w b f c) (hk : P.underlying k = some (.int .i64)) (ht : P.underlying t = some (.map k e)) (he : P.underlying e = some .string) (hz : (zeroValue e).run P w = .ok (.string ⟨#[]⟩) w) {i : Int} (hi : (Lit.int .i64 i).wf = true) :
    (Instr.lookup t (.map (some b)) (.int .i64 i) false).run P w = .ok (.string ⟨((f i).getD []).toArray⟩) w := by
  obtain ⟨D, h1, h2, h3⟩ := h
  obtain ⟨v, ps, hrun, hv⟩ := h1.lookup (int_keyed hk) ht hz (plainElem_string he (s := ⟨#[]⟩) (by unfold maxLen; show 0 ≤ _; omega)) (keyOf_int_mk hk hi)
  cases hS : f i with
  | some l =>
    rw [(h3 i hi).2 l hS] at hv
    rw [hrun, elem_string he hv]
    rfl
  | none =>
    rw [atKey_of_not_has (by rw [(h3 i hi).1, hS]; rfl)] at hv
    rw [hrun, elem_string he hv]
    rfl
theorem FS.look_ok (h : FS P k e w b f c) (hk : P.underlying k = some (.int .i64)) (ht : P.underlying t = some (.map k e)) (he : P.underlying e = some .string) (hz : (zeroValue e).run P w = .ok (.string ⟨#[]⟩) w) {i : Int} (hi : (Lit.int .i64 i).wf = true) :
    (Instr.lookup t (.map (some b)) (.int .i64 i) true).run P w = .ok (.tuple #[.string ⟨((f i).getD []).toArray⟩, .bool (f i).isSome]) w := by
  obtain ⟨D, h1, h2, h3⟩ := h
  obtain ⟨v, ps, hrun, hv⟩ := h1.look_ok (int_keyed hk) ht hz (plainElem_string he (s := ⟨#[]⟩) (by unfold maxLen; show 0 ≤ _; omega)) (keyOf_int_mk hk hi)
  rw [(h3 i hi).1] at hrun
  cases hS : f i with
  | some l =>
    rw [(h3 i hi).2 l hS] at hv
    rw [hrun, elem_string he hv, hS]
    rfl
  | none =>
    rw [atKey_of_not_has (by rw [(h3 i hi).1, hS]; rfl)] at hv
    rw [hrun, elem_string he hv, hS]
    rfl
theorem FS.put (h : FS P k e w b f c) (hk : P.underlying k = some (.int .i64)) (ht : P.underlying t = some (.map k e)) (he : P.underlying e = some .string) (hc : c < maxLen) {i : Int} (hi : (Lit.int .i64 i).wf = true) {s : ByteArray} (hs : s.size ≤ maxLen) :
    ∃ w', (Instr.mapUpdate t (.map (some b)) (.int .i64 i) (.string s)).run P w = .ok () w' ∧ FS P k e w' b (fun j => if j = i then some s.data.toList else f j) (if (f i).isSome then c else c + 1) ∧ Keep (fun j => j = b) w w' := by
  obtain ⟨D, h1, h2, h3⟩ := h
  obtain ⟨w', hrun, ho, hg⟩ := h1.store (int_keyed hk) ht hc (keyOf_int_mk hk hi) (plainElem_string he hs)
  have hkl : WideAt.IsKeyLit (.int .i64 i) := trivial
  have hsz : Maps.size (D.put (.int .i64 i) (.lit (.string s.data.toList))) = if (f i).isSome then c else c + 1 := by
    rw [size_put (h1.tidy (int_keyed hk)), (h3 i hi).1, h2]
  refine ⟨w', hrun, ⟨_, hsz ▸ owns_tight ho, hsz, fun j hj => ?_⟩, turned_keep hg⟩
  by_cases hji : j = i
  · subst hji
    refine ⟨by rw [has_put_same h1.isMap hkl]; simp, fun l hl z => ?_⟩
    simp only [if_pos] at hl
    rw [← Option.some.inj hl]
    exact atKey_put_same h1.isMap hkl _ z
  · refine ⟨by rw [has_put_other (key_ne hji), (h3 j hj).1]; simp [hji], fun l hl z => ?_⟩
    simp only [if_neg hji] at hl
    rw [atKey_put_other (key_ne hji)]
    exact (h3 j hj).2 l hl z
theorem FS.del (h : FS P k e w b f c) (hk : P.underlying k = some (.int .i64)) (ht : P.underlying t = some (.map k e)) {i : Int} (hi : (Lit.int .i64 i).wf = true) (ty : TypeId) :
    ∃ w', (Builtin.delete_ #[t, k] ty #[.map (some b), .int .i64 i]).run P w = .ok (.tuple #[]) w' ∧ FS P k e w' b (fun j => if j = i then none else f j) (if (f i).isSome then c - 1 else c) ∧ Keep (fun j => j = b) w w' := by
  obtain ⟨D, h1, h2, h3⟩ := h
  obtain ⟨w', hrun, ho, hg⟩ := h1.drop (int_keyed hk) ht (keyOf_int_mk hk hi) ty
  have hsz : Maps.size (D.del (.int .i64 i)) = if (f i).isSome then c - 1 else c := by
    have := size_del (k := .int .i64 i) (h1.tidy (int_keyed hk))
    rw [(h3 i hi).1, h2] at this
    split <;> simp_all <;> omega
  refine ⟨w', hrun, ⟨_, hsz ▸ owns_tight ho, hsz, fun j hj => ?_⟩, turned_keep hg⟩
  by_cases hji : j = i
  · subst hji
    exact ⟨by rw [has_del_same]; simp, fun l hl => by simp at hl⟩
  · refine ⟨by rw [has_del_other (key_ne hji), (h3 j hj).1]; simp [hji], fun l hl z => ?_⟩
    simp only [if_neg hji] at hl
    rw [atKey_del_other (key_ne hji)]
    exact (h3 j hj).2 l hl z
end
end Go.Proofs.YtnbpgipbfejllaaDoor
/- strings.ContainsFunc at this dump: laid by the shelf's plain mode. -/
namespace Go.Proofs
open Go.Shelf
def Tryd.lays315_ren : Go.Shelf.Ren := ⟨fun | 315 => 107 | n => n, fun | 9 => 9 | 40 => 146 | 4 => 4 | 3 => 3 | 0 => 0 | 21 => 21 | n => n, fun | n => n⟩
theorem Tryd.lays315 : Go.Proofs.Lays.n315 Tryd.prog Tryd.lays315_ren := {
  mixed := by kernel_rfl
  f315 := Tryd.func107.trans (congrArg some (by kernel_rfl))
  t0 := Tryd.underlying0
  a0 := Tryd.isAgg0
  z0 := Tryd.sizeOf0
  v0 := Tryd.zeroValue0
  t3 := Tryd.underlying3
  a3 := Tryd.isAgg3
  z3 := Tryd.sizeOf3
  v3 := Tryd.zeroValue3
  t4 := Tryd.underlying4
  a4 := Tryd.isAgg4
  z4 := Tryd.sizeOf4
  v4 := Tryd.zeroValue4
  t9 := Tryd.underlying9
  a9 := Tryd.isAgg9
  z9 := Tryd.sizeOf9
  v9 := Tryd.zeroValue9
  t21 := Tryd.underlying21
  a21 := Tryd.isAgg21
  z21 := Tryd.sizeOf21
  v21 := Tryd.zeroValue21
  t40 := Tryd.underlying146
  a40 := Tryd.isAgg146
  z40 := Tryd.sizeOf146
  v40 := Tryd.zeroValue146 }
open Go.RowKit Go.Lib in
theorem Tryd.strings_indexFunc (g : Nat) (lb : Array Value) (eg : ∀ args w, (callFunc g args).run Tryd.prog w = .ok (.enter g args) w) (p : Nat → Bool) (truth : Bool) (s : ByteArray) (w : World) (hp : PredAt Tryd.prog g lb encR p w) :
    Calls Tryd.prog 107 #[.string s, .func (.func g) #[] lb, .bool truth] w fun e w' => e = .returned (.int .i64 (Lib.idxFunc p truth s)) ∧ Below w.heap.size w w' := Any.strings_indexFunc Tryd.lays315 g lb eg p truth s w hp
def Tryd.laysGw15_ren : Go.Shelf.Ren := ⟨fun | 15 => 106 | 20 => 107 | n => n, fun | 9 => 9 | 23 => 146 | 3 => 3 | 4 => 4 | 0 => 0 | 21 => 21 | n => n, fun | n => n⟩
theorem Tryd.laysGw15 : Go.Proofs.LaysGw.n15 Tryd.prog Tryd.laysGw15_ren := {
  mixed := by kernel_rfl
  f15 := Tryd.func106.trans (congrArg some (by kernel_rfl))
  f20 := Tryd.func107.trans (congrArg some (by kernel_rfl))
  t0 := Tryd.underlying0
  a0 := Tryd.isAgg0
  z0 := Tryd.sizeOf0
  v0 := Tryd.zeroValue0
  i0 := by kernel_rfl
  t3 := Tryd.underlying3
  a3 := Tryd.isAgg3
  z3 := Tryd.sizeOf3
  v3 := Tryd.zeroValue3
  i3 := by kernel_rfl
  t4 := Tryd.underlying4
  a4 := Tryd.isAgg4
  z4 := Tryd.sizeOf4
  v4 := Tryd.zeroValue4
  i4 := by kernel_rfl
  t9 := Tryd.underlying9
  a9 := Tryd.isAgg9
  z9 := Tryd.sizeOf9
  v9 := Tryd.zeroValue9
  i9 := by kernel_rfl
  t21 := Tryd.underlying21
  a21 := Tryd.isAgg21
  z21 := Tryd.sizeOf21
  v21 := Tryd.zeroValue21
  i21 := by kernel_rfl
  t23 := Tryd.underlying146
  a23 := Tryd.isAgg146
  z23 := Tryd.sizeOf146
  v23 := Tryd.zeroValue146
  i23 := by kernel_rfl }
open Go.RowKit Go.Lib in
theorem Tryd.strings_IndexFunc (g : Nat) (lb : Array Value) (eg : ∀ args w, (callFunc g args).run Tryd.prog w = .ok (.enter g args) w) (p : Nat → Bool) (s : ByteArray) (w : World) (hp : PredAt Tryd.prog g lb encR p w) :
    Calls Tryd.prog 106 #[.string s, .func (.func g) #[] lb] w fun e w' => e = .returned (.int .i64 (Lib.idxFunc p true s)) ∧ Below w.heap.size w w' := Any.strings_IndexFunc Tryd.laysGw15 g lb eg p s w hp
def Tryd.laysGw17_ren : Go.Shelf.Ren := ⟨fun | 17 => 104 | 15 => 106 | 20 => 107 | n => n, fun | 9 => 9 | 23 => 146 | 4 => 4 | 3 => 3 | 0 => 0 | 21 => 21 | n => n, fun | n => n⟩
theorem Tryd.laysGw17 : Go.Proofs.LaysGw.n17 Tryd.prog Tryd.laysGw17_ren := {
  mixed := by kernel_rfl
  f15 := Tryd.func106.trans (congrArg some (by kernel_rfl))
  f17 := Tryd.func104.trans (congrArg some (by kernel_rfl))
  f20 := Tryd.func107.trans (congrArg some (by kernel_rfl))
  t0 := Tryd.underlying0
  a0 := Tryd.isAgg0
  z0 := Tryd.sizeOf0
  v0 := Tryd.zeroValue0
  i0 := by kernel_rfl
  t3 := Tryd.underlying3
  a3 := Tryd.isAgg3
  z3 := Tryd.sizeOf3
  v3 := Tryd.zeroValue3
  i3 := by kernel_rfl
  t4 := Tryd.underlying4
  a4 := Tryd.isAgg4
  z4 := Tryd.sizeOf4
  v4 := Tryd.zeroValue4
  i4 := by kernel_rfl
  t9 := Tryd.underlying9
  a9 := Tryd.isAgg9
  z9 := Tryd.sizeOf9
  v9 := Tryd.zeroValue9
  i9 := by kernel_rfl
  t21 := Tryd.underlying21
  a21 := Tryd.isAgg21
  z21 := Tryd.sizeOf21
  v21 := Tryd.zeroValue21
  i21 := by kernel_rfl
  t23 := Tryd.underlying146
  a23 := Tryd.isAgg146
  z23 := Tryd.sizeOf146
  v23 := Tryd.zeroValue146
  i23 := by kernel_rfl }
open Go.RowKit Go.Lib in
theorem Tryd.strings_ContainsFunc (g : Nat) (lb : Array Value) (eg : ∀ args w, (callFunc g args).run Tryd.prog w = .ok (.enter g args) w) (p : Nat → Bool) (s : ByteArray) (w : World) (hp : PredAt Tryd.prog g lb encR p w) :
    Calls Tryd.prog 104 #[.string s, .func (.func g) #[] lb] w fun e w' => e = .returned (.bool (decide (0 ≤ Lib.idxFunc p true s))) ∧ Below w.heap.size w w' := Any.strings_ContainsFunc Tryd.laysGw17 g lb eg p s w hp
end Go.Proofs
