/- Install: Add where there is room. -/
import Derived.Test.YtnhajhejkecihaaI8
namespace Go.Proofs.Ytnhajhejkecihaa
open Go.RowKit Go.Lib
set_option linter.unusedVariables false
set_option linter.unusedSimpArgs false

theorem wpStill_load_row {P : Program} {ops : Array Oper} {rest : List Oper} {op : Oper} {a : Act} {w : World} {Q : Act → Prop} (hgd : op.guard = none) (ty : TypeId) (x : Operand) (ho : op.op = .load ty x) (g : Nat) (hx : a.eval x = .pointer (some ⟨g, 0, none⟩))
    (t : TypeId) (cs : Array Value) (fr : Nat × Nat) (d : TypeDesc) (hg : w.heap[g]? = some (.cells cs t fr)) (hu : P.underlying ty = some d) (hd : (match d with | .struct _ | .array _ _ => true | _ => false) = true) (hi : (P.info? ty).map (·.size) = some cs.size)
    (h : wpStill P ops w Q rest (a.put op.dst (.agg cs))) : wpStill P ops w Q (op :: rest) a := by
  unfold wpStill
  rw [if_pos (by unfold Region.wanted; rw [hgd])]
  unfold Oper.still execOp
  simp only [ho, hx, Instr.loadAt, Instr.sureAddr, Sem.run_bind, Sem.run_pure, Result.andThen_ok, run_loadVar_row w g t ty cs fr d hg hu hd hi]
  exact ⟨rfl, h⟩
theorem Try.entriesTy : OneTy Try.prog 55 63 (.pointer none) 8 := ⟨Try.underlying55, by kernel_rfl, rfl⟩
theorem own_some {w : World} {base n : Nat} {e : TypeId} {v : Value} {xs : List Value} (h : w.ownsRow base e 1 v (n + 1) xs) : ∃ g c, v = .slice (some ⟨g, 0, none⟩) (n + 1) c := by
  rcases h.2 with ⟨_, h2⟩ | ⟨g, cap, cur, h1, _⟩
  · omega
  · exact ⟨g, cap, h1⟩
theorem add_tail {n : Nat} {w w7 w8 : World} {p : Nat} {r : SR} {s : MS} {b : Bytes} {a : Nat} {x : MX} {eb o : Nat} {M : Bytes} {fs : List Cache} {g c N : Nat} {X : Obj} (hN : s.all.length = N) (st7 : IsStore n w7 p r s) (bd7 : IsBoard w7 r.bb r.br M fs) (hco : Coh (s.added b a) M fs)
    (he7 : w7.heap[eb]? = some (.cells (ecells ⟨s.next, a, b, false, s.owing⟩ x o).toArray 66 (0, 0))) (hf7 : FB Try.prog 3 4 w7 o (owedS (List.replicate s.inn.length true)) s.inn.length) (ho2 : ∀ k, r.foot p k → k < o) (hno : n ≤ o) (sc7 : Keep (r.foot p) w w7) (hwe : w.heap.size ≤ eb) (hwo : w.heap.size ≤ o) (hold : ∀ k, r.foot p k → k < eb) (hneb : n ≤ eb) (hinv : (s.added b a).Inv)
    (hown : w8.ownsRow n 63 1 (.slice (some ⟨g, 0, none⟩) (N + 1) c) (N + 1) (ptrs r.es ++ [.pointer (some ⟨eb, 0, none⟩)])) (hgr : (w7.alloc X).grownBy w8 (Value.slice r.A N r.ac).ownBlock) (hblk : (Value.slice (some ⟨g, 0, none⟩) (N + 1) c).ownBlock = (Value.slice r.A N r.ac).ownBlock ∨ (Value.slice (some ⟨g, 0, none⟩) (N + 1) c).ownBlock = some (w7.alloc X).heap.size) :
    ((∃ u, w8.cell? ⟨p, 2, none⟩ = some u) ∧ w8.frozen? ⟨p, 2, none⟩ = false ∧ (w8.setCell ⟨p, 2, none⟩ (.slice (some ⟨g, 0, none⟩) (N + 1) c)).cell? ⟨p, 3, none⟩ = some (.int .i64 s.next) ∧ (w8.setCell ⟨p, 2, none⟩ (.slice (some ⟨g, 0, none⟩) (N + 1) c)).frozen? ⟨p, 3, none⟩ = false) ∧
    ((w8.setCell ⟨p, 2, none⟩ (.slice (some ⟨g, 0, none⟩) (N + 1) c)).setCell ⟨p, 3, none⟩ (.int .i64 ((s.next : Int) + 1))).cell? ⟨eb, 0, none⟩ = some (.int .i64 s.next) ∧
    ∃ r', IsStore n ((w8.setCell ⟨p, 2, none⟩ (.slice (some ⟨g, 0, none⟩) (N + 1) c)).setCell ⟨p, 3, none⟩ (.int .i64 ((s.next : Int) + 1))) p r' (s.added b a) ∧ Keep (r.foot p) w ((w8.setCell ⟨p, 2, none⟩ (.slice (some ⟨g, 0, none⟩) (N + 1) c)).setCell ⟨p, 3, none⟩ (.int .i64 ((s.next : Int) + 1))) ∧ ∀ k, r'.foot p k → r.foot p k ∨ w.heap.size ≤ k := by
  subst hN
  have hk : Keep (fun k => ∃ a, r.A = some a ∧ k = a.block) w7 w8 := ((((Keep.refl (fun _ => False) w7).alloc' X).mono (F' := fun k => ∃ a, r.A = some a ∧ k = a.block) (fun _ => False.elim))).grown hgr (fun k e => .inl (by
    cases hA : r.A with
    | none => rw [hA] at e; simp [Value.ownBlock] at e
    | some q =>
      rw [hA] at e
      simp [Value.ownBlock] at e
      exact ⟨q, rfl, e.symm⟩))
  have rowAt : ∀ a, r.A = some a → ∃ cs, w7.heap[a.block]? = some (.cells cs 63 (0, 0)) := fun a ha => own_type st7.row (by rw [ha]; rfl)
  have far : ∀ {k : Nat} {cs : Array Value} {t : TypeId}, w7.heap[k]? = some (.cells cs t (0, 0)) → t ≠ 63 → ¬ ∃ a, r.A = some a ∧ k = a.block := fun hcc ht ⟨a, ha, e⟩ => by
    obtain ⟨cs, hcs⟩ := rowAt a ha
    exact cells_ne hcc hcs ht e
  have hp := (hk.block p (blk_lt st7.hdr) (far st7.hdr (by decide))).trans st7.hdr
  have he8 := (hk.block eb (blk_lt he7) (far he7 (by decide))).trans he7
  have hp2 := blk_set hp 2 (.slice (some ⟨g, 0, none⟩) (s.all.length + 1) c)
  have hpe : eb ≠ p := by have := hold p (.inl rfl); omega
  have ks := keep_set (keep_set (Keep.refl (fun k => k = p) w8) 2 (.slice (some ⟨g, 0, none⟩) (s.all.length + 1) c)) 3 (.int .i64 ((s.next : Int) + 1))
  refine ⟨⟨⟨_, (blk_cell hp 2).trans rfl⟩, blk_free hp 2, (blk_cell hp2 3).trans rfl, blk_free hp2 3⟩, ?_, ?_⟩
  · rw [blk_cell ((ks.block eb (blk_lt he8) hpe).trans he8) 0]
    rfl
  · have hmem : ∀ k, k ∈ r.br.ms ++ r.os → r.foot p k := fun k hk => by
      rcases List.mem_append.1 hk with hk | hk
      · exact .inr (.inl (.inr (.inr (.inr hk))))
      · exact .inr (.inr (.inr (.inr (.inr hk))))
    refine ⟨_, st7.grown bd7 hco he7 (by
      have e1 : (s.owing).count true = s.inn.length := by simp [MS.owing]
      rw [e1]
      exact hf7) hinv ⟨hneb, fun hm => by have := hold eb (.inr (.inr (.inr (.inr (.inl hm))))); omega⟩ ⟨hno, fun hm => by have := ho2 o (hmem o hm); omega⟩ (by
      have : ptrs (r.es ++ [eb]) = ptrs r.es ++ [.pointer (some ⟨eb, 0, none⟩)] := by simp [ptrs]
      rw [this]
      exact hown) hk, Keep.trans sc7 (Keep.trans (Keep.mono hk (F' := r.foot p) (fun i ⟨q, hq, e⟩ => .inr (.inr (.inr (.inl ⟨q, hq, e⟩))))) (Keep.mono ks (fun i e => .inl e))), fun k hkf => ?_⟩
    rcases hkf with h1 | h1 | h1 | ⟨q, hq, h1⟩ | h1 | h1
    · exact .inl (.inl h1)
    · exact .inl (.inr (.inl h1))
    · exact .inl (.inr (.inr (.inl h1)))
    · cases hq
      have h1 : k = g := h1
      subst h1
      rcases hblk with hb | hb
      · cases hA : r.A with
        | none => rw [hA] at hb; simp [Value.ownBlock] at hb
        | some q =>
          rw [hA] at hb
          simp [Value.ownBlock] at hb
          exact .inl (.inr (.inr (.inr (.inl ⟨q, hA, hb⟩))))
      · right
        have hb2 : some k = some (w7.alloc X).heap.size := hb
        have hb3 := Option.some.inj hb2
        have h7 := sc7.size
        have h8 : (w7.alloc X).heap.size = w7.heap.size + 1 := by simp
        omega
    · rcases List.mem_append.1 h1 with h1 | h1
      · exact .inl (.inr (.inr (.inr (.inr (.inl h1)))))
      · rw [List.mem_singleton.1 h1]; exact .inr hwe
    · rcases List.mem_append.1 h1 with h1 | h1
      · exact .inl (.inr (.inr (.inr (.inr (.inr h1)))))
      · rw [List.mem_singleton.1 h1]; exact .inr hwo
set_option maxRecDepth 100000 in
set_option maxHeartbeats 4000000 in
theorem add_some {n : Nat} {w : World} {p : Nat} {r : SR} {s : MS} (h : IsStore n w p r s) {b : Bytes} (x : MX) (hb : 0 < b.length ∧ b.length ≤ 4096) (hf : s.all.length < 16) {a : Nat} (hp : s.place b.length = some a) (hnx : s.next < 1000000) :
    Calls Try.prog 8 #[.pointer (some ⟨p, 0, none⟩), modV b x] w fun e w' => e = .returned (.tuple #[.int .i64 s.next, .int .i64 0]) ∧ ∃ r', IsStore n w' p r' (s.added b a) ∧ Keep (r.foot p) w w' ∧ ∀ k, r'.foot p k → r.foot p k ∨ w.heap.size ≤ k := by
  have H := Lib.hid h
  have c2 := h.c2
  obtain ⟨N, hNN⟩ : ∃ N, s.all.length = N := ⟨_, rfl⟩
  rw [hNN] at c2 hf
  obtain ⟨L, hL⟩ : ∃ L, b.length = L := ⟨_, rfl⟩
  have hss : (sb b).size = L := by rw [sb_size, hL]
  obtain ⟨sv, hsv⟩ : ∃ sv, sb b = sv := ⟨_, rfl⟩
  rw [hL] at hb hp
  rw [hsv] at hss
  have HPL := Lib.hid hp
  have HNX := Lib.hid hnx
  have bL0 : ¬ L = 0 := by omega
  have bL1 : decide ((4096 : Int) < (L : Int)) = false := by simp; omega
  have bL2 : ¬ 4096 < L := by omega
  have bN : decide ((16 : Int) ≤ (N : Int)) = false := by simp; omega
  have bN2 : ¬ 16 ≤ N := by omega
  unfold modV mcells
  rw [hsv]
  have HNN := Lib.hid hNN
  have HB := Lib.hid (And.intro hL hsv)
  clear h hp hnx hNN hL hsv
  have k0 := (Keep.refl (fun _ => False) w).alloc' (.cells #[x.x0, x.x1, .string sv, x.x2, x.x3, x.x4, x.x5, x.x6, x.x7] 34)
  have H0 := Lib.hid (And.intro (H.out.quiet k0) (And.intro k0 (heap_alloc_new w (.cells #[x.x0, x.x1, .string sv, x.x2, x.x3, x.x4, x.x5, x.x6, x.x7] 34))))
  clear k0
  go_enter Try.func8, Try.ntmps8
  go_upto_region 1 with (fail)
  obtain ⟨W1, hW1⟩ : ∃ W1, w.alloc (.cells #[x.x0, x.x1, .string sv, x.x2, x.x3, x.x4, x.x5, x.x6, x.x7] 34) = W1 := ⟨_, rfl⟩
  obtain ⟨mb, hmb⟩ : ∃ mb, w.heap.size = mb := ⟨_, rfl⟩
  have HMB := Lib.hid hmb
  rw [hW1, hmb] at H0
  rw [hW1, hmb]
  clear hW1 hmb c2
  have HC := Lib.hid (closed_any H0.out.1)
  have c2 : W1.cell? ⟨p, 2, none⟩ = some (.slice r.A N r.ac) := by have := H0.out.1.c2; rwa [HNN.out] at this
  have m2 : W1.cell? ⟨mb, 2, none⟩ = some (.string sv) := (blk_cell H0.out.2.2 2).trans rfl
  have HT := Lib.hid (taken_any H0.out.1)
  obtain ⟨P, hP⟩ : ∃ P, takenB s.all = P := ⟨_, rfl⟩
  rw [hP] at HT
  have HPP := Lib.hid hP
  clear hP
  have hzv : ∀ W, (zeroValue 61).run Try.prog W = .ok (.agg (tk fun _ => false).toArray) W := fun W => by kernel_rfl
  go_wp2_with fail
  ((with_reducible refine HC.out.mono ?_); rintro e w' ⟨rfl, rfl⟩)
  clear HC
  go_wp2_with fail
  ((with_reducible refine HT.out.mono ?_); rintro e w2 ⟨rfl, hk2⟩)
  have K2 := Lib.hid hk2
  clear hk2 HT c2 m2
  go_wp2_with (first | (refine wpList_store_row rfl 61 (.tmp 6) (.tmp 33) rfl w2.heap.size 61 (tk fun _ => false).toArray (tk P).toArray rfl rfl (by exact heap_alloc_new _ _) (tk_info _) (by rw [List.size_toArray, List.size_toArray, tk_length, tk_length]) (tk_one _) ?_) | (refine wpList_load_row rfl 61 (.tmp 6) rfl w2.heap.size rfl 61 _ (0, 0) _ (by exact setRow_heap _ _ _ _ _ _ (heap_alloc_new _ _)) Try.underlying61 rfl (tk_info _) ?_))
  have k3 : Since W1.heap.size W1 ((w2.alloc (.cells (tk fun _ => false).toArray 61)).setRow w2.heap.size (tk P).toArray) :=
    Keep.trans (Keep.trans K2.out (Since.of ((Keep.refl (fun _ => False) w2).alloc' _))) (Keep.mono setRow_keep (fun i hi => by rw [hi]; exact K2.out.size))
  obtain ⟨W3, hW3⟩ : ∃ W3, (w2.alloc (.cells (tk fun _ => false).toArray 61)).setRow w2.heap.size (tk P).toArray = W3 := ⟨_, rfl⟩
  rw [hW3] at k3
  rw [hW3]
  have K3 := Lib.hid k3
  have m2 : W3.cell? ⟨mb, 2, none⟩ = some (.string sv) := (blk_cell ((k3.block mb (blk_lt H0.out.2.2) (by have := blk_lt H0.out.2.2; omega)).trans H0.out.2.2) 2).trans rfl
  obtain ⟨tb, htb⟩ : ∃ tb, w2.heap.size = tb := ⟨_, rfl⟩
  rw [htb]
  obtain ⟨T, hT⟩ : ∃ T, tk P = T := ⟨_, rfl⟩
  have HTT := Lib.hid hT
  rw [hT]
  clear hT hW3 k3 hzv htb K2
  go_loop [7, 35] (fun m i => ∃ k q : Nat, (k ≤ 256 ∧ q ≤ k ∧ q * 16 < L) ∧ i = .int .i64 (k : Int) ∧ m = .int .i64 (q : Int) ∧ Hid (seek P L (256 - k) k q = some a)) (fun _ i => 256 + 1 - (intOf i).toNat)
  case atStart => exact ⟨0, 0, by omega, rfl, rfl, Lib.hid (by have := HPL.out; unfold MS.place at this; rw [HPP.out] at this; exact this)⟩
  case round =>
    obtain ⟨k, q, hk, rfl, rfl, HS⟩ := hrel
    by_cases hlt : k < 256
    · have hb1 : decide ((k : Int) < 256) = true := by simp; omega
      have hki : (k : Int) < 256 := by omega
      have hix : ∀ W, (Instr.index 61 (.agg T.toArray) (.int .i64 (k : Int))).run Try.prog W = .ok (.bool (P k)) W := fun W => by rw [← HTT.out]; exact run_index_tk P hlt W
      have hsk := HS.out
      rw [show 256 - k = (256 - (k + 1)) + 1 by omega, seek_round] at hsk
      obtain ⟨d, hd⟩ : ∃ d, P k = d := ⟨_, rfl⟩
      rw [hd] at hix hsk
      clear hd HS
      cases d with
      | true =>
        simp only [if_true] at hsk
        rw [if_pos (by omega)] at hsk
        have HS := Lib.hid hsk
        have hz : decide ((0 : Int) * 16 < (L : Int)) = true := by simp; omega
        have hz2 : (0 : Int) < (L : Int) := by omega
        clear hsk
        go_wp2_with fail
        exact ⟨⟨k + 1, 0, by omega, by go_num, rfl, HS⟩, by simp [intOf]; omega⟩
      | false =>
        simp only [Bool.false_eq_true, if_false] at hsk
        by_cases hq : (q + 1) * 16 < L
        · rw [if_pos hq] at hsk
          have HS := Lib.hid hsk
          have hz : decide (((q : Int) + 1) * 16 < (L : Int)) = true := by simp; omega
          have hz2 : ((q : Int) + 1) * 16 < (L : Int) := by omega
          clear hsk
          go_wp2_with fail
          exact ⟨⟨k + 1, q + 1, by omega, by go_num, by go_num, HS⟩, by simp [intOf]; omega⟩
        · rw [if_neg hq] at hsk
          have hak := Option.some.inj hsk
          have hz : decide (((q : Int) + 1) * 16 < (L : Int)) = false := by simp; omega
          have hz2 : ¬ ((q : Int) + 1) * 16 < (L : Int) := by omega
          have hst := H0.out.1.since K3.out
          have c3 := hst.c3
          have c0 := hst.c0
          have hm := (K3.out.block mb (blk_lt H0.out.2.2) (by have := blk_lt H0.out.2.2; omega)).trans H0.out.2.2
          have HAK : Hid (k = a + q) := Lib.hid (by omega)
          have hA : ((k : Int) + 1 - ((q : Int) + 1)) * 16 = ((16 * a : Nat) : Int) := by have := HAK.out; omega
          have HA := Lib.hid hA
          clear hsk hak hA
          go_wp2_with fail
          go_still_tail 11, (by kernel_rfl)
          refine wpStill_load_row rfl 34 (.tmp 3) rfl mb rfl 34 _ (0, 0) _ hm Try.underlying34 rfl (by kernel_rfl) ?_
          repeat still_step
          refine wpStill_nil ?_
          change wpList _ _ _ _ _ W3.drew
          have d0 : W3.drew.cell? ⟨p, 0, none⟩ = _ := c0
          have d3 : W3.drew.cell? ⟨p, 3, none⟩ = _ := c3
          have dm : W3.drew.cell? ⟨mb, 2, none⟩ = _ := m2
          have dh : W3.drew.heap[mb]? = _ := hm
          have HD := Lib.hid (hst.quiet (keep_draw (fun _ => False) W3))
          have KD := Lib.hid (Keep.trans K3.out (keep_draw _ W3))
          obtain ⟨wd, hwd⟩ : ∃ wd, W3.drew = wd := ⟨_, rfl⟩
          rw [hwd] at d0 d3 dm dh HD KD ⊢
          clear hwd c0 c3 m2 hm hst
          go_wp2_with fail
          rw [HA.out]
          have hlow : n ≤ wd.heap.size := by
            have h1 := H.out.low p (.inl rfl)
            have h2 := blk_lt H.out.hdr
            have h3 := H0.out.2.1.size
            have h4 := KD.out.size
            omega
          have kw : Keep (r.foot p) w wd := (Keep.mono H0.out.2.1 (F' := r.foot p) (fun _ => False.elim)).then KD.out (fun i hi => .inr (Nat.le_trans H0.out.2.1.size hi))
          obtain ⟨M, fs, hbd0, hco⟩ := HD.out.board
          have hml : M.length = 4096 := hbd0.len
          have hpl := place_free (L := b.length) (a := a) (s := s) (by rw [HB.out.1]; exact hb.1) (by rw [HB.out.1]; exact HPL.out)
          have hadd : 16 * a + b.length ≤ 4096 := by have := hpl.1; unfold lns at this; omega
          have hwro := hco.wrote HD.out.inv hml (b := b) (a := a) (by rw [HB.out.1]; exact hb.1) (by rw [HB.out.1]; exact HPL.out)
          have hinv := added_inv HD.out.inv (b := b) (a := a) (by rw [HB.out.1]; exact hb.1) (by rw [HB.out.1]; exact HPL.out) (by rw [HNN.out]; exact hf) HNX.out
          obtain ⟨A16, hA16⟩ : ∃ A16 : Int, ((16 * a : Nat) : Int) = A16 := ⟨_, rfl⟩
          have ka := (Keep.refl (fun _ => False) wd).alloc' (.cells #[.int .i64 s.next, .int .i64 ((16 * a : Nat) : Int), x.x0, x.x1, .string sv, x.x2, x.x3, x.x4, x.x5, x.x6, x.x7, .bool false, .map none] 66)
          have he4 := heap_alloc_new wd (.cells #[.int .i64 s.next, .int .i64 ((16 * a : Nat) : Int), x.x0, x.x1, .string sv, x.x2, x.x3, x.x4, x.x5, x.x6, x.x7, .bool false, .map none] 66)
          obtain ⟨eb, hebd⟩ : ∃ eb, wd.heap.size = eb := ⟨_, rfl⟩
          obtain ⟨w4, hw4⟩ : ∃ w4, wd.alloc (.cells #[.int .i64 s.next, .int .i64 ((16 * a : Nat) : Int), x.x0, x.x1, .string sv, x.x2, x.x3, x.x4, x.x5, x.x6, x.x7, .bool false, .map none] 66) = w4 := ⟨_, rfl⟩
          rw [hw4] at ka he4
          rw [hebd] at he4
          have hold : ∀ k, r.foot p k → k < eb := fun k hk => by rw [← hebd]; exact HD.out.foot_lt k hk
          have k5 : Keep (fun _ => False) wd w4.drew := Keep.trans ka (keep_draw _ w4)
          have hbd := hbd0.keep k5 (fun _ _ => id)
          have st5 := HD.out.quiet k5
          have he5 : w4.drew.heap[eb]? = _ := he4
          have HWR : Hid (Calls Try.prog 21 #[.pointer (some ⟨r.bb, 0, none⟩), .int .i64 A16, .string sv] w4.drew fun ee w' => ee = .returned (.int .i64 0) ∧ IsStore n w' p r s ∧ IsBoard w' r.bb r.br (wrote M (16 * a) b) fs ∧
              w'.heap[eb]? = some (.cells #[.int .i64 s.next, .int .i64 ((16 * a : Nat) : Int), x.x0, x.x1, .string sv, x.x2, x.x3, x.x4, x.x5, x.x6, x.x7, .bool false, .map none] 66 (0, 0)) ∧ Keep (r.foot p) w w') := by
            have hwa := write_any hbd (16 * a) b (by rw [HB.out.1]; exact hb.1) hadd
            rw [HB.out.2, hA16] at hwa
            refine Lib.hid (hwa.mono ?_)
            rintro ee w' ⟨rfl, hb2, hk2⟩
            have hne : eb ≠ r.br.mb := by have := hold r.br.mb (.inr (.inl (.inr (.inl rfl)))); omega
            exact ⟨rfl, st5.turnBoard hb2 hwro.1 hk2 (.inl rfl), hb2, (hk2.block eb (blk_lt he5) hne).trans he5, Keep.trans kw (Keep.trans (Keep.mono k5 (fun _ => False.elim)) (Keep.mono hk2 (fun i hi => by rw [hi]; exact .inr (.inl (.inr (.inl rfl))))))⟩
          have d0' : w4.cell? ⟨p, 0, none⟩ = some (.pointer (some ⟨r.bb, 0, none⟩)) := cell_kept ka d0 id
          have dm' : w4.cell? ⟨mb, 2, none⟩ = some (.string sv) := cell_kept ka dm id
          have e1' : w4.cell? ⟨eb, 1, none⟩ = some (.int .i64 A16) := by rw [← hA16]; exact (blk_cell he4 1).trans rfl
          have hneb : n ≤ eb := by omega
          have HWE := Lib.hid (show w.heap.size ≤ eb by have := kw.size; omega)
          have HX := Lib.hid (And.intro hneb (And.intro hold (And.intro hwro.2 hinv)))
          rw [hebd, hw4]
          clear hebd hw4 ka he4 hbd0 hco hml hpl hadd hwro hinv hold k5 hbd st5 he5 d0 d3 dm dh hlow kw hneb hix
          go_wp2_with fail
          go_still_tail 10, (by kernel_rfl)
          change wpList _ _ _ _ _ w4.drew
          obtain ⟨w5, hw5⟩ : ∃ w5, w4.drew = w5 := ⟨_, rfl⟩
          rw [hw5] at HWR ⊢
          clear hw5
          go_wp2_with fail
          ((with_reducible refine HWR.out.mono ?_); rintro ee w6 ⟨rfl, st6, bd6, he6, sc6⟩)
          have hpe : p ≠ eb := by have := HX.out.2.1 p (.inl rfl); omega
          have HOW := Lib.hid (owe_low (p := p) st6.c1 he6 rfl hpe st6.inv.cpus.2)
          have H6 := Lib.hid (And.intro st6 (And.intro bd6 sc6))
          clear HWR st6 bd6 he6 sc6 d0' dm' e1'
          go_wp2_with fail
          ((with_reducible refine HOW.out.mono ?_); rintro ee w7 ⟨rfl, o, ho, he7, hf7, hk7⟩)
          clear HOW
          have heb7 : ∀ k, r.foot p k → ¬ k = eb := fun k hk => by have := HX.out.2.1 k hk; omega
          have st7 := H6.out.1.keep hk7 heb7
          have bd7 := H6.out.2.1.keep hk7 (fun k hk => heb7 k (.inr (.inl hk)))
          have ho2 : ∀ k, r.foot p k → k < o := fun k hk => by have := H6.out.1.foot_lt k hk; omega
          have hno : n ≤ o := by have := H6.out.1.foot_lt p (.inl rfl); have := H6.out.1.low p (.inl rfl); omega
          have sc7 : Keep (r.foot p) w w7 := H6.out.2.2.then hk7 (fun i hi => .inr (by rw [hi]; exact HWE.out))
          have HWO := Lib.hid (Nat.le_trans H6.out.2.2.size ho)
          have c2 := st7.c2
          rw [HNN.out] at c2
          have f2 := blk_free st7.hdr 2
          have rowN : w7.ownsRow n 63 1 (.slice r.A N r.ac) N (ptrs r.es) := by
            have := own_base st7.row n (fun k e => st7.low k (by
              cases hA : r.A with
              | none => rw [hA] at e; simp [Value.ownBlock] at e
              | some q =>
                rw [hA] at e
                simp [Value.ownBlock] at e
                exact .inr (.inr (.inr (.inl ⟨q, hA, e.symm⟩)))))
            rwa [HNN.out] at this
          have hn7 : n ≤ w7.heap.size := by have := st7.foot_lt p (.inl rfl); have := st7.low p (.inl rfl); omega
          replace he7 : w7.heap[eb]? = some (.cells (ecells ⟨s.next, a, b, false, s.owing⟩ x o).toArray 66 (0, 0)) := by
            rw [← HB.out.2] at he7
            exact he7
          have hnx2 : s.next < 1000000 := HNX.out
          have H7 := Lib.hid (And.intro st7 (And.intro bd7 (And.intro he7 (And.intro hf7 (And.intro ho2 (And.intro hno (And.intro sc7 (And.intro rowN hn7))))))))
          clear st7 bd7 he7 hf7 ho2 hno sc7 rowN ho hk7 heb7 hn7 H6
          go_wp2_with (at_builtin; go_loud (refine wpList_append_src 55 63 _ 8 n Try.entriesTy _ _ rfl rfl _ N (ptrs r.es) rfl (by exact H7.out.2.2.2.2.2.2.2.1.alloc _) _ 1 1 [.pointer (some ⟨eb, 0, none⟩)] rfl (by intro h; cases h) (by exact cells_new _ _ _) (by intro u hu; rw [List.mem_singleton.1 hu]; rfl) (by omega) (by decide) (by have := H7.out.2.2.2.2.2.2.2.2; simp; omega) ?_); intro v' w8 hown hgr hnil hblk; clear hnil; obtain ⟨g, cc, rfl⟩ := own_some hown; go_loud (obtain ⟨⟨⟨uu, t1⟩, t2, t3, t4⟩, t5, t6⟩ := add_tail (x := x) HNN.out H7.out.1 H7.out.2.1 HX.out.2.2.1 H7.out.2.2.1 H7.out.2.2.2.1 H7.out.2.2.2.2.1 H7.out.2.2.2.2.2.1 H7.out.2.2.2.2.2.2.1 HWE.out HWO.out HX.out.2.1 HX.out.1 HX.out.2.2.2 hown hgr hblk); have HF := Lib.hid t6; clear hown hgr hblk t6)
          go_ret2
          exact ⟨rfl, HF.out⟩
    · exfalso
      obtain rfl : k = 256 := by omega
      have := HS.out
      cases this
end Go.Proofs.Ytnhajhejkecihaa
