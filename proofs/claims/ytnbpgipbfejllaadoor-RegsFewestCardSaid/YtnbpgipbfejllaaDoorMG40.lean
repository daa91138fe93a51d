/- append, whatever the capacity that a nil source says. -/
import Derived.Test.YtnbpgipbfejllaaDoorMG17
import Derived.Laws.OwnMore
import Derived.Test.YtnbpgipbfejllaaDoorMG6
import Derived.Test.YtnbpgipbfejllaaDoorMG16
namespace Go.Proofs.YtnbpgipbfejllaaDoor
open Go.RowKit Go.Lib
set_option linter.unusedVariables false
set_option linter.unusedSimpArgs false

theorem run_append_nil_c {P : Program} {w : World} (base : Nat) (t ty e : TypeId) (i : TypeInfo) (size : Nat) (ht : P.underlying t = some (.slice e)) (hi : P.info? e = some i)
    (v : Value) (n : Nat) (xs : List Value) (hown : w.ownsRow base e size v n xs) (c : Nat) : (Builtin.append_ #[t, t] ty #[v, .slice none 0 c]).run P w = .ok v w := by
  rcases hown.2 with ⟨rfl, rfl⟩ | ⟨g, cap, cur, rfl, _, _, hnc, _⟩
  · simp [Builtin.append_, run_underlying ht, sizeOf, typeInfo, hi, Builtin.lenOf, Builtin.firstCells]
  · simp [Builtin.append_, run_underlying ht, sizeOf, typeInfo, hi, Builtin.lenOf, Builtin.firstCells, hnc, storeCells]
/-- append of a slice of one-cell elements onto an owned row. -/
theorem wpList_append_any {P : Program} {w : World} {ops : Array Oper} {rest : List Oper} {o : Oper} {a : Act} {Q : Exit → Act → World → Prop}
    (t e : TypeId) (z : Value) (bytes base : Nat) (T : OneTy P t e z bytes) (s x : Operand) (hgd : o.guard = none)
    (ho : o.op = .call { callee := .builtin .append, args := #[s, x], argTypes := #[t, t] })
    (v : Value) (n : Nat) (xs : List Value) (hs : a.eval s = v) (hown : w.ownsRow base e 1 v n xs)
    (A : Option Addr) (m c : Nat) (news : List Value) (hx : a.eval x = .slice A m c) (hsrc : CellsAt w A m news) (h1 : ∀ u ∈ news, u.oneCell' = true)
    (hbytes : (n + m) * bytes ≤ 140737488355328) (hb0 : 0 < bytes) (hbase : base ≤ w.heap.size)
    (h : ∀ v' w', w'.ownsRow base e 1 v' (n + m) (xs ++ news) → w.grownBy w' v.ownBlock → (v'.ownBlock = v.ownBlock ∨ v'.ownBlock = some w.heap.size) → wpList P ops Q rest (a.put o.dst v') w') :
    wpList P ops Q (o :: rest) a w := by
  obtain ⟨i, hi, hz0, hz1, hz2⟩ := info_parts T.info
  cases A with
  | none =>
    obtain rfl : m = 0 := by
      rcases Nat.eq_zero_or_pos m with h0 | h0
      · exact h0
      · obtain ⟨_, _, e1, _⟩ := hsrc.2.2 h0
        cases e1
    obtain rfl : news = [] := List.eq_nil_of_length_eq_zero hsrc.1
    have hrun := run_append_nil_c (P := P) (w := w) base t o.type e i 1 T.ht hi v n xs hown c
    refine wpList_plain hgd (fun K hK => ?_)
    unfold Oper.wp
    simp [execOp, ho, resolve, invoke, builtin, hs, hx, hrun, Result.andThen]
    exact hK _ _ (h v w (by simpa using hown) (World.grownBy.refl _ _) (.inl rfl))
  | some ad => exact wpList_append_src t e z bytes base T s x hgd ho v n xs hs hown (some ad) m c news hx (by intro h; cases h) hsrc h1 hbytes hb0 hbase (fun v' w' a b _ d => h v' w' a b d)
end Go.Proofs.YtnbpgipbfejllaaDoor
/- graph: slices.Contains at ints. -/
namespace Go.Proofs.YtnbpgipbfejllaaDoor
open Go.RowKit
set_option linter.unusedVariables false
set_option linter.unusedSimpArgs false

set_option maxRecDepth 100000 in
theorem sindex_any {w : World} {A : Option Addr} {n c : Nat} {l : List Int} (h : IntsAt w A n l) (hn : n ≤ 1000000) (v : Int) : Calls Tryd.prog 58 #[.slice A n c, .int .i64 v] w fun e w' => (∃ k : Int, e = .returned (.int .i64 k) ∧ decide (0 ≤ k) = decide (v ∈ l)) ∧ w = w' := by
  have HI := Lib.hid h
  have hl := h.length
  have HLN := Lib.hid hl
  clear h hl
  go_enter Tryd.func58, Tryd.ntmps58
  go_wp2_with fail
  go_loopw [8] (fun i wr => ∃ k : Nat, k ≤ n ∧ i = .int .i64 (k : Int) ∧ Hid (w = wr ∧ ∀ j, j < k → l.getD j 0 ≠ v)) (fun i _ => n + 1 - (RowKit.intOf i).toNat)
  case atStart => exact ⟨0, Nat.zero_le _, rfl, Lib.hid ⟨rfl, fun j hj => absurd hj (Nat.not_lt_zero _)⟩⟩
  case round =>
    obtain ⟨k, hk, rfl, HW⟩ := hrel
    obtain ⟨wo, rfl⟩ : ∃ wo : World, wo = wr := ⟨_, rfl⟩
    have HV := Lib.hid HW.out.2
    obtain rfl := HW.out.1
    by_cases hlt : k < n
    · have hb : decide (k < n) = true := by simpa using hlt
      obtain ⟨b, o, rfl, x0⟩ := HI.out.at_ k hlt
      obtain ⟨y, hy⟩ : ∃ y, l.getD k 0 = y := ⟨_, rfl⟩
      rw [hy] at x0
      have HY := Lib.hid hy
      clear hy
      by_cases he : y = v
      · subst he
        have hc : decide (y ∈ l) = true := by
          have h9 : l.getD k 0 ∈ l := getD_mem (by rw [HLN.out]; exact hlt)
          rw [HY.out] at h9
          simpa using h9
        have HC := Lib.hid hc
        clear hc
        go_wp2_with fail
        go_ret
        exact ⟨⟨(k : Int), rfl, ⟨fun _ => of_decide_eq_true HC.out, fun _ => by omega⟩⟩, rfl⟩
      · have hev : (v == y) = false := by simpa using fun e => he e.symm
        have hev2 : (y == v) = false := by simpa using he
        have HV2 := Lib.hid (show True ∧ ∀ j, j < k + 1 → l.getD j 0 ≠ v from ⟨trivial, fun j hj => by
          by_cases h1 : j < k
          · exact HV.out j h1
          · obtain rfl : j = k := by omega
            rw [HY.out]; exact he⟩)
        go_wp2_with fail
        exact ⟨⟨k + 1, by omega, by go_num, HV2⟩, by simp [RowKit.intOf]; omega⟩
    · have hb : decide (k < n) = false := by simpa using hlt
      obtain rfl : k = n := by omega
      have hc : decide (v ∈ l) = false := by
        refine decide_eq_false fun hm => ?_
        obtain ⟨j, hj, e⟩ := List.getElem_of_mem hm
        refine HV.out j (by rw [← HLN.out]; exact hj) ?_
        rw [List.getD_eq_getElem?_getD, List.getElem?_eq_getElem hj]
        exact e
      have HC := Lib.hid hc
      clear hc
      go_wp2_with fail
      go_ret
      exact ⟨⟨-1, rfl, ⟨fun h => absurd h (by omega), fun h => absurd h (of_decide_eq_false HC.out)⟩⟩, rfl⟩
set_option maxRecDepth 100000 in
theorem contains_any {w : World} {A : Option Addr} {n c : Nat} {l : List Int} (h : IntsAt w A n l) (hn : n ≤ 1000000) (v : Int) : Calls Tryd.prog 38 #[.slice A n c, .int .i64 v] w fun e w' => e = .returned (.bool (decide (v ∈ l))) ∧ w = w' := by
  have HI := Lib.hid (sindex_any (c := c) h hn v)
  clear h
  go_enter Tryd.func38, Tryd.ntmps38
  go_wp2_with fail
  ((with_reducible refine HI.out.mono ?_); rintro ee w' ⟨⟨k, rfl, hk⟩, rfl⟩)
  have HK := Lib.hid hk
  obtain ⟨d, hd⟩ : ∃ d, decide (0 ≤ k) = d := ⟨_, rfl⟩
  rw [hd] at HK
  clear hk
  go_wp2_with fail
  go_ret
  exact ⟨by rw [← HK.out]; rfl, rfl⟩
end Go.Proofs.YtnbpgipbfejllaaDoor
/- graph: which operators have values, must have an exit, may have Once (the program's). -/
namespace Go.Proofs.YtnbpgipbfejllaaDoor
open Go.RowKit
set_option linter.unusedVariables false
set_option linter.unusedSimpArgs false

/-- Is a number in a list? -/
def memB (l : List Int) (v : Int) : Bool := decide (v ∈ l)
set_option maxRecDepth 100000 in
theorem ghas_any (op : Int) (w : World) : Calls Tryd.prog 91 #[.int .i64 op] w fun e w' => e = .returned (.bool (memB [1, 2, 3, 4, 10, 12, 14, 16, 17] op)) ∧ Keep (fun _ => False) w w' := by
  have HK := Lib.hid ((Keep.refl (fun _ => False) w).alloc' (.cells #[.int .i64 1, .int .i64 2, .int .i64 3, .int .i64 4, .int .i64 10, .int .i64 12, .int .i64 14, .int .i64 16, .int .i64 17] 3))
  have HC := Lib.hid (show Calls Tryd.prog 38 #[.slice (some ⟨w.heap.size, 0, none⟩) 9 9, .int .i64 op] (w.alloc (.cells #[.int .i64 1, .int .i64 2, .int .i64 3, .int .i64 4, .int .i64 10, .int .i64 12, .int .i64 14, .int .i64 16, .int .i64 17] 3)) (fun e w' => e = .returned (.bool (memB [1, 2, 3, 4, 10, 12, 14, 16, 17] op)) ∧ (w.alloc (.cells #[.int .i64 1, .int .i64 2, .int .i64 3, .int .i64 4, .int .i64 10, .int .i64 12, .int .i64 14, .int .i64 16, .int .i64 17] 3)) = w') from contains_any (l := [1, 2, 3, 4, 10, 12, 14, 16, 17]) (cells_new w (ints [1, 2, 3, 4, 10, 12, 14, 16, 17]) 3 (by simp [ints])) (by decide) op)
  go_enter Tryd.func91, Tryd.ntmps91
  go_wp2_with fail
  ((with_reducible refine HC.out.mono ?_); rintro ee w' ⟨rfl, rfl⟩)
  go_wp2_with fail
  go_ret
  exact ⟨rfl, HK.out⟩
set_option maxRecDepth 100000 in
theorem gmust_any (op : Int) (w : World) : Calls Tryd.prog 69 #[.int .i64 op] w fun e w' => e = .returned (.bool (memB [5, 6, 7, 8, 9, 15, 18, 21] op)) ∧ Keep (fun _ => False) w w' := by
  have HK := Lib.hid ((Keep.refl (fun _ => False) w).alloc' (.cells #[.int .i64 5, .int .i64 6, .int .i64 7, .int .i64 8, .int .i64 9, .int .i64 15, .int .i64 18, .int .i64 21] 3))
  have HC := Lib.hid (show Calls Tryd.prog 38 #[.slice (some ⟨w.heap.size, 0, none⟩) 8 8, .int .i64 op] (w.alloc (.cells #[.int .i64 5, .int .i64 6, .int .i64 7, .int .i64 8, .int .i64 9, .int .i64 15, .int .i64 18, .int .i64 21] 3)) (fun e w' => e = .returned (.bool (memB [5, 6, 7, 8, 9, 15, 18, 21] op)) ∧ (w.alloc (.cells #[.int .i64 5, .int .i64 6, .int .i64 7, .int .i64 8, .int .i64 9, .int .i64 15, .int .i64 18, .int .i64 21] 3)) = w') from contains_any (l := [5, 6, 7, 8, 9, 15, 18, 21]) (cells_new w (ints [5, 6, 7, 8, 9, 15, 18, 21]) 3 (by simp [ints])) (by decide) op)
  go_enter Tryd.func69, Tryd.ntmps69
  go_wp2_with fail
  ((with_reducible refine HC.out.mono ?_); rintro ee w' ⟨rfl, rfl⟩)
  go_wp2_with fail
  go_ret
  exact ⟨rfl, HK.out⟩
set_option maxRecDepth 100000 in
theorem grepeats_any (op : Int) (w : World) : Calls Tryd.prog 67 #[.int .i64 op] w fun e w' => e = .returned (.bool (memB [2, 3, 4, 5, 6, 7, 8, 9, 10, 12, 14] op)) ∧ Keep (fun _ => False) w w' := by
  have HK := Lib.hid ((Keep.refl (fun _ => False) w).alloc' (.cells #[.int .i64 2, .int .i64 3, .int .i64 4, .int .i64 5, .int .i64 6, .int .i64 7, .int .i64 8, .int .i64 9, .int .i64 10, .int .i64 12, .int .i64 14] 3))
  have HC := Lib.hid (show Calls Tryd.prog 38 #[.slice (some ⟨w.heap.size, 0, none⟩) 11 11, .int .i64 op] (w.alloc (.cells #[.int .i64 2, .int .i64 3, .int .i64 4, .int .i64 5, .int .i64 6, .int .i64 7, .int .i64 8, .int .i64 9, .int .i64 10, .int .i64 12, .int .i64 14] 3)) (fun e w' => e = .returned (.bool (memB [2, 3, 4, 5, 6, 7, 8, 9, 10, 12, 14] op)) ∧ (w.alloc (.cells #[.int .i64 2, .int .i64 3, .int .i64 4, .int .i64 5, .int .i64 6, .int .i64 7, .int .i64 8, .int .i64 9, .int .i64 10, .int .i64 12, .int .i64 14] 3)) = w') from contains_any (l := [2, 3, 4, 5, 6, 7, 8, 9, 10, 12, 14]) (cells_new w (ints [2, 3, 4, 5, 6, 7, 8, 9, 10, 12, 14]) 3 (by simp [ints])) (by decide) op)
  go_enter Tryd.func67, Tryd.ntmps67
  go_wp2_with fail
  ((with_reducible refine HC.out.mono ?_); rintro ee w' ⟨rfl, rfl⟩)
  go_wp2_with fail
  go_ret
  exact ⟨rfl, HK.out⟩
end Go.Proofs.YtnbpgipbfejllaaDoor
/- graph: how many parameters a trace has; a value before an instruction (the program's). -/
namespace Go.Proofs.YtnbpgipbfejllaaDoor
open Go.RowKit
set_option linter.unusedVariables false
set_option linter.unusedSimpArgs false

theorem hasOp_mem (op : Int) : hasOp op = memB [1, 2, 3, 4, 10, 12, 14, 16, 17] op := by
  unfold hasOp memB
  rw [Bool.eq_iff_iff]
  simp
theorem notparam_any (r : RI) (w : World) : Calls Tryd.prog 65 #[.agg r.cells.toArray] w fun e w' => e = .returned (.bool (!(r.x.op == 1))) ∧ Keep (fun _ => False) w w' := by
  obtain ⟨⟨op, a, b, c, nn, args, kk, kn, ks, names, pf, pl, ex, once⟩, A2, ca2, N2, cn2⟩ := r
  unfold RI.cells
  dsimp only
  have HK := Lib.hid ((Keep.refl (fun _ => False) w).alloc' (.cells #[.int .i64 op, .int .i64 a, .int .i64 b, .int .i64 c, .int .i64 nn, .slice A2 args.length ca2, .int .i64 kk, .int .i64 kn, .string (sb ks), .slice N2 names.length cn2, .int .i64 pf, .int .i64 pl, .int .i64 ex, .bool once] 60))
  by_cases h1 : op = 1
  · subst h1
    go_enter Tryd.func65, Tryd.ntmps65
    go_wp2_with fail
    go_ret
    exact ⟨rfl, HK.out⟩
  · have b1 : (op == 1) = false := by simpa using h1
    go_enter Tryd.func65, Tryd.ntmps65
    go_wp2_with fail
    go_ret
    exact ⟨rfl, HK.out⟩
section
variable {w w' : World} {A : Option Addr} {ca : Nat} {E : Option Addr} {ce : Nat} {R : List RI} {X : List RX} {T : TR}
set_option maxRecDepth 100000 in
set_option maxHeartbeats 4000000 in
theorem gindex_any {P : Nat} (h : TA w A ca E ce R X T) (hr : RightT P T) : Calls Tryd.prog 64 #[.slice A T.ins.length ca, .func (.func 65) #[] #[]] w fun e w' => e = .returned (.int .i64 (P : Int)) ∧ Keep (fun _ => False) w w' := by
  have HR := Lib.hid hr
  have HT := Lib.hid h
  have hP := hr.par
  have hF := hr.few
  obtain ⟨N, hN⟩ : ∃ N, T.ins.length = N := ⟨_, rfl⟩
  have HO := Lib.hid (fun k (hk : k < N) => (show _ from HR.out.op1 (k := k) (by omega)))
  rw [hN] at hP hF ⊢
  have HN := Lib.hid hN
  clear h hr hN
  go_enter Tryd.func64, Tryd.ntmps64
  go_wp2_with fail
  go_loopw [5, 8] (fun x i wr => ∃ k : Nat, k ≤ P ∧ i = .int .i64 (k : Int) ∧ Hid (Keep (fun _ => False) w wr)) (fun _ i _ => P + 1 - (RowKit.intOf i).toNat)
  case atStart => exact ⟨0, Nat.zero_le _, rfl, Lib.hid (Keep.refl _ _)⟩
  case round =>
    obtain ⟨k, hk, rfl, HW⟩ := hrel
    obtain ⟨wo, rfl⟩ : ∃ wo : World, wo = wr := ⟨_, rfl⟩
    have hkN : decide (k < N) = true := by simp; omega
    have hop := HO.out k (by omega)
    obtain ⟨g, rfl, _, hx, hm, hc⟩ := (HT.out.quiet HW.out).cellsI (k := k) (by rw [HN.out]; omega)
    obtain ⟨r, hrr⟩ : ∃ r, R.getD k RI.dflt = r := ⟨_, rfl⟩
    rw [hrr] at hx hc
    obtain ⟨⟨op, a, b, c, nn, args, kk, kn, ks, names, pf, pl, ex, once⟩, A2, ca2, N2, cn2⟩ := r
    rw [← hx] at hop
    dsimp only at hop
    have z0 : wo.cell? ⟨g, k * 14, none⟩ = some (.int .i64 op) := (hc 0 (by omega)).trans rfl
    have z1 : wo.cell? ⟨g, k * 14 + 1, none⟩ = some (.int .i64 a) := (hc 1 (by omega)).trans rfl
    have z2 : wo.cell? ⟨g, k * 14 + 2, none⟩ = some (.int .i64 b) := (hc 2 (by omega)).trans rfl
    have z3 : wo.cell? ⟨g, k * 14 + 3, none⟩ = some (.int .i64 c) := (hc 3 (by omega)).trans rfl
    have z4 : wo.cell? ⟨g, k * 14 + 4, none⟩ = some (.int .i64 nn) := (hc 4 (by omega)).trans rfl
    have z5 : wo.cell? ⟨g, k * 14 + 5, none⟩ = some (.slice A2 args.length ca2) := (hc 5 (by omega)).trans rfl
    have z6 : wo.cell? ⟨g, k * 14 + 6, none⟩ = some (.int .i64 kk) := (hc 6 (by omega)).trans rfl
    have z7 : wo.cell? ⟨g, k * 14 + 7, none⟩ = some (.int .i64 kn) := (hc 7 (by omega)).trans rfl
    have z8 : wo.cell? ⟨g, k * 14 + 8, none⟩ = some (.string (sb ks)) := (hc 8 (by omega)).trans rfl
    have z9 : wo.cell? ⟨g, k * 14 + 9, none⟩ = some (.slice N2 names.length cn2) := (hc 9 (by omega)).trans rfl
    have z10 : wo.cell? ⟨g, k * 14 + 10, none⟩ = some (.int .i64 pf) := (hc 10 (by omega)).trans rfl
    have z11 : wo.cell? ⟨g, k * 14 + 11, none⟩ = some (.int .i64 pl) := (hc 11 (by omega)).trans rfl
    have z12 : wo.cell? ⟨g, k * 14 + 12, none⟩ = some (.int .i64 ex) := (hc 12 (by omega)).trans rfl
    have z13 : wo.cell? ⟨g, k * 14 + 13, none⟩ = some (.bool once) := (hc 13 (by omega)).trans rfl
    have HC := Lib.hid (fun w => notparam_any ⟨⟨op, a, b, c, nn, args, kk, kn, ks, names, pf, pl, ex, once⟩, A2, ca2, N2, cn2⟩ w)
    clear hrr hm hc hx
    by_cases hlt : k < P
    · obtain rfl := hop.2 hlt
      clear hop
      go_wp2_with fail
      ((refine (show Calls Tryd.prog _ #[.agg (RI.cells ⟨⟨1, a, b, c, nn, args, kk, kn, ks, names, pf, pl, ex, once⟩, A2, ca2, N2, cn2⟩).toArray] wo _ from HC.out wo).mono ?_); rintro ee w3 ⟨rfl, hk3⟩)
      replace HW := Lib.hid (Keep.trans HW.out hk3)
      clear hk3 z0 z1 z2 z3 z4 z5 z6 z7 z8 z9 z10 z11 z12 z13
      go_wp2_with fail
      exact ⟨⟨k + 1, by omega, by go_num, HW⟩, by simp [RowKit.intOf]; omega⟩
    · obtain rfl : k = P := by omega
      have hne : (op == 1) = false := by
        have : op ≠ 1 := fun e => hlt (hop.1 e)
        simpa using this
      have HC2 : Hid (∀ w, Calls Tryd.prog 65 #[.agg (RI.cells ⟨⟨op, a, b, c, nn, args, kk, kn, ks, names, pf, pl, ex, once⟩, A2, ca2, N2, cn2⟩).toArray] w fun e w' => e = .returned (.bool true) ∧ Keep (fun _ => False) w w') := Lib.hid (fun w => by have h9 := HC.out w; dsimp only at h9; rw [hne] at h9; exact h9)
      clear hop HC
      go_wp2_with fail
      ((refine (show Calls Tryd.prog _ #[.agg (RI.cells ⟨⟨op, a, b, c, nn, args, kk, kn, ks, names, pf, pl, ex, once⟩, A2, ca2, N2, cn2⟩).toArray] wo _ from HC2.out wo).mono ?_); rintro ee w3 ⟨rfl, hk3⟩)
      replace HW := Lib.hid (Keep.trans HW.out hk3)
      clear hk3 z0 z1 z2 z3 z4 z5 z6 z7 z8 z9 z10 z11 z12 z13
      go_wp2_with fail
      go_ret
      exact ⟨rfl, HW.out⟩
theorem gparams_any {P : Nat} (h : TA w A ca E ce R X T) (hr : RightT P T) : Calls Tryd.prog 45 #[trV A ca E ce T] w fun e w' => e = .returned (.int .i64 (P : Int)) ∧ Keep (fun _ => False) w w' := by
  have HK := Lib.hid ((Keep.refl (fun _ => False) w).alloc' (.cells #[.int .i64 T.pf, .int .i64 T.pl, .slice A T.ins.length ca, .slice E T.exits.length ce] 31))
  have HI := Lib.hid (gindex_any (h.quiet HK.out) hr)
  unfold trV
  clear h hr
  go_enter Tryd.func45, Tryd.ntmps45
  go_wp2_with fail
  ((with_reducible refine HI.out.mono ?_); rintro ee w3 ⟨rfl, hk3⟩)
  have HW := Lib.hid (Keep.trans HK.out hk3)
  clear hk3
  go_wp2_with fail
  go_ret
  exact ⟨rfl, HW.out⟩
def chkV (A : Option Addr) (ca : Nat) (E : Option Addr) (ce : Nat) (T : TR) (mp : Nat) : Value := .agg #[.int .i64 T.pf, .int .i64 T.pl, .slice A T.ins.length ca, .slice E T.exits.length ce, .map (some mp)]
set_option maxRecDepth 100000 in
set_option maxHeartbeats 4000000 in
theorem gval_any (h : TA w A ca E ce R X T) {k : Nat} {v : Int} (hv : VB T k v) (hk : k ≤ T.ins.length) (hl : T.ins.length ≤ 1000) (mp : Nat) : Calls Tryd.prog 70 #[chkV A ca E ce T mp, .int .i64 v, .int .i64 (k : Int)] w fun e w' => e = .returned (.bool true) ∧ Keep (fun _ => False) w w' := by
  obtain ⟨u, rfl, hu, hop⟩ := hv
  have HK := Lib.hid ((Keep.refl (fun _ => False) w).alloc' (.cells #[.int .i64 T.pf, .int .i64 T.pl, .slice A T.ins.length ca, .slice E T.exits.length ce, .map (some mp)] 99))
  have HB := Lib.hid (heap_alloc_new w (.cells #[.int .i64 T.pf, .int .i64 T.pl, .slice A T.ins.length ca, .slice E T.exits.length ce, .map (some mp)] 99))
  obtain ⟨g, rfl, x0⟩ := (h.quiet HK.out).opAt (k := u) (by omega)
  have hop2 : hasOp (T.at_ u).op = true := hop
  obtain ⟨op, ho⟩ : ∃ op, (T.at_ u).op = op := ⟨_, rfl⟩
  rw [ho] at x0 hop2
  have HH := Lib.hid (fun W : World => ghas_any op W)
  rw [show memB [1, 2, 3, 4, 10, 12, 14, 16, 17] op = true from by rw [← hop2]; exact (hasOp_mem op).symm] at HH
  have hb1 : decide (u < k) = true := by simpa using hu
  obtain ⟨N, hN⟩ : ∃ N, T.ins.length = N := ⟨_, rfl⟩
  unfold chkV
  rw [hN] at HK HB x0 hk hl ⊢
  clear h hop hop2 ho hN
  go_enter Tryd.func70, Tryd.ntmps70
  go_upto_region 1 with (fail)
  obtain ⟨q, hq⟩ : ∃ q, w.heap.size = q := ⟨_, rfl⟩
  obtain ⟨w1, hw1⟩ : ∃ w1 : World, w.alloc (.cells #[.int .i64 T.pf, .int .i64 T.pl, .slice (some ⟨g, 0, none⟩) N ca, .slice E T.exits.length ce, .map (some mp)] 99) = w1 := ⟨_, rfl⟩
  rw [hw1] at HK HB x0
  rw [hq] at HB
  rw [hw1, hq]
  clear hw1 hq
  have c2 := (blk_cell HB.out 2).trans rfl
  go_wp2_with fail
  ((with_reducible refine (HH.out _).mono ?_); rintro ee w' ⟨rfl, hk3⟩)
  have HW := Lib.hid (Keep.trans HK.out hk3)
  clear hk3
  go_wp2_with fail
  go_ret
  exact ⟨rfl, HW.out⟩
end
end Go.Proofs.YtnbpgipbfejllaaDoor
