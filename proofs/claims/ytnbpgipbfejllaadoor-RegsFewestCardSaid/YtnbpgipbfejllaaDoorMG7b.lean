/- graph: the builder's step, cases [5] -/
import Derived.Test.YtnbpgipbfejllaaDoorMG7x
namespace Go.Proofs.YtnbpgipbfejllaaDoor
open Go.RowKit Go.Lib
set_option linter.unusedVariables false
set_option linter.unusedSimpArgs false

section
variable {n : Nat} {w0 w : World} {p m : Nat} {T : TR} {fu : Int} {pa : Nat} {C : List (Nat × Obj)}
set_option maxRecDepth 100000 in
set_option maxHeartbeats 64000000 in
theorem step_5 (h : BD n w0 p m T fu (pa : Int) C w) (hs : Start pa T) (hfu : 0 ≤ fu ∧ fu ≤ 10) (hl : T.ins.length ≤ 800) (hnx : Calls Tryd.prog 73 #[.pointer (some ⟨m, 0, none⟩), .int .i64 14] w fun e w' => e = .returned (.int .i64 5) ∧ BD n w0 p m T fu (pa : Int) C w') :
    Calls Tryd.prog 76 #[.pointer (some ⟨p, 0, none⟩)] w fun e w' => e = .returned (.tuple #[]) ∧ ∃ T' : TR, Grow pa 4 T T' ∧ BD n w0 p m T' fu (pa : Int) C w' := by
  have HS := Lib.hid hs
  have HFU := Lib.hid hfu
  have HPT := Lib.hid point_any
  obtain ⟨A, ca, E, ce, hpc⟩ := h.pcells
  have q0 := (blk_cell hpc 0).trans rfl
  have HNX := Lib.hid hnx
  clear h hs hfu hpc hnx
  go_enter Tryd.func76, Tryd.ntmps76
  go_wp2_with fail
  ((with_reducible refine HNX.out.mono ?_); rintro ee w1 ⟨rfl, hbd⟩)
  have HB := Lib.hid hbd
  clear hbd HNX q0
  go_upto_region 15 with (fail)
  go_cut [5] from 22 to 222 (fun t5 wx => ∃ (b : Nat) (nn a b1 : Int), t5 = .pointer (some ⟨b, 0, none⟩) ∧ Hid ((nn = 10 ∨ nn = 11) ∧ VB T T.ins.length a ∧ VB T T.ins.length b1 ∧ n ≤ b ∧ (∀ x ∈ C, x.1 ≠ b) ∧ BD n w0 p m T fu (pa : Int) ((b, .cells #[.int .i64 4, .int .i64 a, .int .i64 b1, .int .i64 0, .int .i64 nn, .slice none 0 0, .int .i64 0, .int .i64 0, .string ⟨#[]⟩, .slice none 0 0, .int .i64 0, .int .i64 0, .int .i64 0, .bool false] 60 (0, 0)) :: C) wx))
  case first =>
    refine wp_region_drewU (S := (fun _ => Hid True)) (D := [11]) (by kernel_rfl) (by exact Lib.hid trivial) (fun hH => ?_)
    replace HB := Lib.hid (HB.out.quiet (keep_draw _ w1))
    obtain ⟨v0, hv0⟩ : ∃ V : World, w1.drew = V := ⟨_, rfl⟩
    rw [hv0] at HB ⊢
    clear hv0
    obtain ⟨tl, htl⟩ : ∃ tl : List Value, [undef, undef, undef, undef, undef, undef, undef, undef, undef, undef, undef, undef, undef, undef, undef, undef, undef, undef, undef, undef, undef, undef, undef, undef, undef, undef, undef, undef, undef, undef, undef, undef, undef, undef, undef, undef, undef, undef, undef, undef, undef, undef, undef, undef, undef, undef, undef, undef, undef, undef, undef, undef, undef, undef, undef, undef, undef, undef, undef, undef, undef, undef, undef, undef, undef, undef, undef, undef, undef, undef, undef, undef, undef, undef, undef, undef, undef, undef, undef, undef, undef, undef, undef, undef, undef, undef, undef, undef, undef, undef, undef, undef, undef, undef, undef, undef, undef, undef, undef, undef, undef, undef, undef, undef, undef, undef, undef, undef, undef, undef, undef, undef, undef, undef, undef, undef, undef, undef, undef, undef, undef, undef, undef, undef, undef, undef, undef, undef, undef, undef, undef, undef, undef, undef, undef, undef, undef, undef, undef, undef, undef] = tl := ⟨_, rfl⟩
    rw [htl]
    have HTL := Lib.hid htl
    clear htl
    refine wpAnyU_take (i := 1) (v := ?_) rfl (by kernel_rfl) (by kernel_rfl) (by kernel_rfl) (by kernel_rfl) (fun _ _ _ h => h) (Or.inl ⟨by rfl, ?_⟩) hH ?_
    rotate_left
    · (intro w'' hSw; (try dsimp only at hSw); go_simp; try with_reducible rfl)
    change wpAnyU _ _ _ _ _ _ _ _ (Act.put _ (some 73) _) _
    try simp only [Act.put, List.setIfInBounds_toArray, List.set_cons_zero, List.set_cons_succ]
    refine wpAnyU_take (i := 5) (v := ?_) rfl (by kernel_rfl) (by kernel_rfl) (by kernel_rfl) (by kernel_rfl) (fun _ _ _ h => h) (Or.inl ⟨by rfl, ?_⟩) hH ?_
    rotate_left
    · (intro w'' hSw; (try dsimp only at hSw); go_simp; try with_reducible rfl)
    change wpAnyU _ _ _ _ _ _ _ _ (Act.put _ (some 77) _) _
    try simp only [Act.put, List.setIfInBounds_toArray, List.set_cons_zero, List.set_cons_succ]
    refine wpAnyU_take (i := 7) (v := ?_) rfl (by kernel_rfl) (by kernel_rfl) (by kernel_rfl) (by kernel_rfl) (fun _ _ _ h => h) (Or.inl ⟨by rfl, ?_⟩) hH ?_
    rotate_left
    · (intro w'' hSw; (try dsimp only at hSw); go_simp; try with_reducible rfl)
    change wpAnyU _ _ _ _ _ _ _ _ (Act.put _ (some 79) _) _
    try simp only [Act.put, List.setIfInBounds_toArray, List.set_cons_zero, List.set_cons_succ]
    refine wpAnyU_inv #[true, true, true, true, true, true, true, true, true, true, true, false] (fun l a W => ∃ z : C5, l = z.l ∧ a = z.act p m tl ∧ z.ok n w0 p m T fu (pa : Int) C W) ?hS ?hstep ?hne ?hend _ _ _ _ (by decide) ⟨⟨false, false, false, false, false, false, false, false, 0, 0, 0, 0, 0, undef, undef, undef, undef, undef, undef, undef, undef⟩, rfl, ?za, ?ok⟩
    case za => rfl
    case ok => exact ⟨HB.out, fun e => Bool.noConfusion e, fun e => Bool.noConfusion e, fun e => Bool.noConfusion e, fun e => Bool.noConfusion e, fun e => Bool.noConfusion e, fun e => Bool.noConfusion e, fun e => Bool.noConfusion e, fun e => Bool.noConfusion e⟩
    case hS => exact fun _ _ _ _ => Lib.hid trivial
    case hstep =>
      rintro l a W i ⟨⟨b0, b2, b3, b4, b6, b8, b9, b10, gr, r1, b, a, b1, T5, T72, T74, T75, T76, T78, T80, T81⟩, rfl, rfl, hz⟩ hl hi
      have hun := (mem_ready.1 hi).1
      have hlt : i < 12 := by
        obtain ⟨_, o, ho, _⟩ := mem_ready.1 hi
        exact (Array.getElem?_eq_some_iff.1 ho).1
      rcases (show i = 0 ∨ i = 1 ∨ i = 2 ∨ i = 3 ∨ i = 4 ∨ i = 5 ∨ i = 6 ∨ i = 7 ∨ i = 8 ∨ i = 9 ∨ i = 10 ∨ i = 11 by omega) with rfl | rfl | rfl | rfl | rfl | rfl | rfl | rfl | rfl | rfl | rfl | rfl
      · as_aux_lemma =>
          obtain rfl : b0 = false := hun
          obtain rfl : b3 = false := by
            cases h9 : b3 with
            | false => rfl
            | true => exact Bool.noConfusion (show false = true from (hz.p3 h9).1)
          obtain rfl : b4 = false := by
            cases h9 : b4 with
            | false => rfl
            | true => exact Bool.noConfusion (show false = true from Bool.noConfusion (hz.p4 h9).1)
          obtain rfl : b9 = false := by
            cases h9 : b9 with
            | false => rfl
            | true => exact Bool.noConfusion (show false = true from Bool.noConfusion (hz.p9 h9).1)
          refine wpOp_step rfl (fun Kn hK => ?_)
          have HK := Lib.hid hK
          clear hK hi hl
          simp only [C5.act, C5.l]
          go_simp
          refine HK.out _ _ ?_
          exact ⟨⟨true, b2, false, false, b6, b8, false, b10, W.heap.size, r1, b, a, b1, T5, .slice (some ⟨W.heap.size, 0, none⟩) 2 2, T74, T75, T76, T78, T80, T81⟩, rfl, (by first | (simp only [Act.put, List.setIfInBounds_toArray, List.set_cons_zero, List.set_cons_succ]; rfl) | rfl), ⟨(hz.bd.more (.cells #[.int .i64 10, .int .i64 11] 3)).less (C5.sub0 b10 b _ C), fun _ => rfl, hz.p2, fun e => Bool.noConfusion e, fun e => Bool.noConfusion e, hz.p6, hz.p8, fun e => Bool.noConfusion e, hz.p10⟩⟩
      · exact absurd (show true = false from hun) (by decide)
      · as_aux_lemma =>
          obtain rfl : b2 = false := hun
          obtain rfl : b3 = false := by
            cases h9 : b3 with
            | false => rfl
            | true => exact Bool.noConfusion (show false = true from (hz.p3 h9).2.1)
          obtain rfl : b4 = false := by
            cases h9 : b4 with
            | false => rfl
            | true => exact Bool.noConfusion (show false = true from Bool.noConfusion (hz.p4 h9).1)
          obtain rfl : b6 = false := by
            cases h9 : b6 with
            | false => rfl
            | true => exact Bool.noConfusion (show false = true from (hz.p6 h9).1)
          obtain rfl : b8 = false := by
            cases h9 : b8 with
            | false => rfl
            | true => exact Bool.noConfusion (show false = true from Bool.noConfusion (hz.p8 h9).1)
          obtain rfl : b9 = false := by
            cases h9 : b9 with
            | false => rfl
            | true => exact Bool.noConfusion (show false = true from Bool.noConfusion (hz.p9 h9).1)
          refine wpOp_step rfl (fun Kn hK => ?_)
          have HK := Lib.hid hK
          clear hK hi hl
          simp only [C5.act, C5.l]
          go_simp
          go_at_call 73
          (with_reducible refine (bNext hz.bd 2 (by omega)).mono ?_)
          rintro ee V ⟨ri, rfl, hri, hbd⟩
          obtain ⟨r9, rfl⟩ : ∃ k : Nat, ri = (k : Int) := ⟨ri.toNat, by omega⟩
          refine HK.out _ _ ?_
          exact ⟨⟨b0, true, false, false, false, false, false, b10, gr, r9, b, a, b1, T5, T72, .int .i64 (r9 : Int), T75, T76, T78, T80, T81⟩, rfl, (by first | (simp only [Act.put, List.setIfInBounds_toArray, List.set_cons_zero, List.set_cons_succ]; rfl) | rfl), ⟨hbd, hz.p0, fun _ => ⟨rfl, (show r9 < 2 by omega)⟩, fun e => Bool.noConfusion e, fun e => Bool.noConfusion e, fun e => Bool.noConfusion e, fun e => Bool.noConfusion e, fun e => Bool.noConfusion e, hz.p10⟩⟩
      · as_aux_lemma =>
          obtain rfl : b3 = false := hun
          obtain rfl : b0 = true := ready_dep hi rfl 0 (by kernel_rfl)
          obtain rfl : b2 = true := ready_dep hi rfl 2 (by kernel_rfl)
          obtain rfl : b4 = false := by
            cases h9 : b4 with
            | false => rfl
            | true => exact Bool.noConfusion (show false = true from (hz.p4 h9).1)
          obtain rfl : b9 = false := by
            cases h9 : b9 with
            | false => rfl
            | true => exact Bool.noConfusion (show false = true from Bool.noConfusion (hz.p9 h9).1)
          have h0 := hz.p0 rfl
          obtain ⟨h2, hr2⟩ := hz.p2 rfl
          simp only at h0 h2 hr2
          subst h0 h2
          refine wpOp_step rfl (fun Kn hK => ?_)
          have HK := Lib.hid hK
          clear hK hi hl
          simp only [C5.act, C5.l]
          have hbb : 0 ≤ (r1 : Int) ∧ (r1 : Int) < 2 := by omega
          go_simp
          refine HK.out _ _ ?_
          exact ⟨⟨true, true, true, false, b6, b8, false, b10, gr, r1, b, a, b1, T5, .slice (some ⟨gr, 0, none⟩) 2 2, .int .i64 (r1 : Int), .pointer (some ⟨gr, r1, none⟩), T76, T78, T80, T81⟩, rfl, (by first | (simp only [Act.put, List.setIfInBounds_toArray, List.set_cons_zero, List.set_cons_succ]; rfl) | rfl), ⟨hz.bd, hz.p0, hz.p2, fun _ => ⟨rfl, rfl, rfl⟩, fun e => Bool.noConfusion e, hz.p6, hz.p8, fun e => Bool.noConfusion e, hz.p10⟩⟩
      · as_aux_lemma =>
          obtain rfl : b4 = false := hun
          obtain rfl : b3 = true := ready_dep hi rfl 3 (by kernel_rfl)
          obtain rfl : b9 = false := by
            cases h9 : b9 with
            | false => rfl
            | true => exact Bool.noConfusion (show false = true from (hz.p9 h9).1)
          obtain ⟨hb0, hb2, h3⟩ := hz.p3 rfl
          simp only at hb0 hb2 h3
          subst hb0 hb2 h3
          obtain ⟨h2, hr2⟩ := hz.p2 rfl
          simp only at hr2
          have q : W.cell? ⟨gr, r1, none⟩ = some (.int .i64 (10 + (r1 : Int))) := (blk_cell (hz.bd.at_ (C5.mem0 b10 b gr C)) r1).trans (two_at (by omega))
          refine wpOp_step rfl (fun Kn hK => ?_)
          have HK := Lib.hid hK
          clear hK hi hl
          simp only [C5.act, C5.l]
          go_simp
          refine HK.out _ _ ?_
          exact ⟨⟨true, true, true, true, b6, b8, false, b10, gr, r1, b, a, b1, T5, T72, T74, .pointer (some ⟨gr, r1, none⟩), .int .i64 (10 + (r1 : Int)), T78, T80, T81⟩, rfl, (by first | (simp only [Act.put, List.setIfInBounds_toArray, List.set_cons_zero, List.set_cons_succ]; rfl) | rfl), ⟨hz.bd, hz.p0, hz.p2, hz.p3, fun _ => ⟨rfl, rfl⟩, hz.p6, hz.p8, fun e => Bool.noConfusion e, hz.p10⟩⟩
      · exact absurd (show true = false from hun) (by decide)
      · as_aux_lemma =>
          obtain rfl : b6 = false := hun
          obtain rfl : b2 = true := ready_dep hi rfl 2 (by kernel_rfl)
          obtain rfl : b8 = false := by
            cases h9 : b8 with
            | false => rfl
            | true => exact Bool.noConfusion (show false = true from (hz.p8 h9).1)
          obtain rfl : b9 = false := by
            cases h9 : b9 with
            | false => rfl
            | true => exact Bool.noConfusion (show false = true from Bool.noConfusion ((hz.p8 (hz.p9 h9).2.1).1))
          refine wpOp_step rfl (fun Kn hK => ?_)
          have HK := Lib.hid hK
          clear hK hi hl
          simp only [C5.act, C5.l]
          go_simp
          go_at_call 77
          (with_reducible refine (bVal hz.bd HS.out).mono ?_)
          rintro ee V ⟨a9, rfl, hv, hbd⟩
          refine HK.out _ _ ?_
          exact ⟨⟨b0, true, b3, b4, true, false, false, b10, gr, r1, b, a9, b1, T5, T72, T74, T75, T76, .int .i64 a9, T80, T81⟩, rfl, (by first | (simp only [Act.put, List.setIfInBounds_toArray, List.set_cons_zero, List.set_cons_succ]; rfl) | rfl), ⟨hbd, hz.p0, hz.p2, hz.p3, hz.p4, fun _ => ⟨rfl, rfl, hv⟩, fun e => Bool.noConfusion e, fun e => Bool.noConfusion e, hz.p10⟩⟩
      · exact absurd (show true = false from hun) (by decide)
      · as_aux_lemma =>
          obtain rfl : b8 = false := hun
          obtain rfl : b6 = true := ready_dep hi rfl 6 (by kernel_rfl)
          obtain rfl : b9 = false := by
            cases h9 : b9 with
            | false => rfl
            | true => exact Bool.noConfusion (show false = true from (hz.p9 h9).2.1)
          refine wpOp_step rfl (fun Kn hK => ?_)
          have HK := Lib.hid hK
          clear hK hi hl
          simp only [C5.act, C5.l]
          go_simp
          go_at_call 77
          (with_reducible refine (bVal hz.bd HS.out).mono ?_)
          rintro ee V ⟨a9, rfl, hv, hbd⟩
          refine HK.out _ _ ?_
          exact ⟨⟨b0, b2, b3, b4, true, true, false, b10, gr, r1, b, a, a9, T5, T72, T74, T75, T76, T78, .int .i64 a9, T81⟩, rfl, (by first | (simp only [Act.put, List.setIfInBounds_toArray, List.set_cons_zero, List.set_cons_succ]; rfl) | rfl), ⟨hbd, hz.p0, hz.p2, hz.p3, hz.p4, hz.p6, fun _ => ⟨rfl, rfl, hv⟩, fun e => Bool.noConfusion e, hz.p10⟩⟩
      · as_aux_lemma =>
          obtain rfl : b9 = false := hun
          obtain rfl : b4 = true := ready_dep hi rfl 4 (by kernel_rfl)
          obtain rfl : b8 = true := ready_dep hi rfl 8 (by kernel_rfl)
          obtain ⟨hb3, h4⟩ := hz.p4 rfl
          obtain ⟨hb6, h8, hv8⟩ := hz.p8 rfl
          simp only at hb3 h4 hb6 h8
          subst hb3 h4 hb6 h8
          obtain ⟨hb2, h6, hv6⟩ := hz.p6 rfl
          simp only at h6
          subst h6
          refine wpOp_step rfl (fun Kn hK => ?_)
          have HK := Lib.hid hK
          clear hK hi hl
          simp only [C5.act, C5.l]
          go_simp
          refine HK.out _ _ ?_
          exact ⟨⟨b0, b2, true, true, true, true, true, b10, gr, r1, b, a, b1, T5, T72, T74, T75, .int .i64 (10 + (r1 : Int)), .int .i64 a, .int .i64 b1, .agg #[.int .i64 4, .int .i64 a, .int .i64 b1, .int .i64 0, .int .i64 (10 + (r1 : Int)), .slice none 0 0, .int .i64 0, .int .i64 0, .string ⟨#[]⟩, .slice none 0 0, .int .i64 0, .int .i64 0, .int .i64 0, .bool false]⟩, rfl, (by first | (simp only [Act.put, List.setIfInBounds_toArray, List.set_cons_zero, List.set_cons_succ]; rfl) | rfl), ⟨hz.bd, hz.p0, hz.p2, hz.p3, hz.p4, hz.p6, hz.p8, fun _ => ⟨rfl, rfl, rfl⟩, hz.p10⟩⟩
      · as_aux_lemma =>
          obtain rfl : b10 = false := hun
          refine wpOp_step rfl (fun Kn hK => ?_)
          have HK := Lib.hid hK
          clear hK hi hl
          simp only [C5.act, C5.l]
          go_simp
          refine HK.out _ _ ?_
          exact ⟨⟨b0, b2, b3, b4, b6, b8, b9, true, gr, r1, W.heap.size, a, b1, .pointer (some ⟨W.heap.size, 0, none⟩), T72, T74, T75, T76, T78, T80, T81⟩, rfl, (by first | (simp only [Act.put, List.setIfInBounds_toArray, List.set_cons_zero, List.set_cons_succ]; rfl) | rfl), ⟨hz.bd.more (.cells #[.int .i64 0, .int .i64 0, .int .i64 0, .int .i64 0, .int .i64 0, .slice none 0 0, .int .i64 0, .int .i64 0, .string ⟨#[]⟩, .slice none 0 0, .int .i64 0, .int .i64 0, .int .i64 0, .bool false] 60), hz.p0, hz.p2, hz.p3, hz.p4, hz.p6, hz.p8, hz.p9, fun _ => ⟨rfl, hz.bd.low', fun x hx => by have := hz.bd.lt x (C5.memC b0 gr C hx); show x.1 ≠ W.heap.size; omega⟩⟩⟩
      · obtain rfl : b10 = true := ready_dep hi rfl 10 (by kernel_rfl)
        obtain rfl : b9 = true := ready_dep hi rfl 9 (by kernel_rfl)
        obtain rfl : b8 = true := ready_dep hi rfl 8 (by kernel_rfl)
        obtain rfl : b0 = true := ready_dep hi rfl 0 (by kernel_rfl)
        obtain rfl : b2 = true := ready_dep hi rfl 2 (by kernel_rfl)
        obtain rfl : b3 = true := ready_dep hi rfl 3 (by kernel_rfl)
        obtain rfl : b4 = true := ready_dep hi rfl 4 (by kernel_rfl)
        obtain rfl : b6 = true := ready_dep hi rfl 6 (by kernel_rfl)
        exact absurd rfl hl
    case hne =>
      rintro l a W ⟨⟨b0, b2, b3, b4, b6, b8, b9, b10, gr, r1, b, a, b1, T5, T72, T74, T75, T76, T78, T80, T81⟩, rfl, rfl, hz⟩ hl hr
      obtain rfl : b0 = true := by
        cases hb : b0 with
        | true => rfl
        | false => exact (ready_nil hr (i := 0) (by subst hb; rfl) rfl (by kernel_rfl)).elim
      obtain rfl : b2 = true := by
        cases hb : b2 with
        | true => rfl
        | false => exact (ready_nil hr (i := 2) (by subst hb; rfl) rfl (by kernel_rfl)).elim
      obtain rfl : b3 = true := by
        cases hb : b3 with
        | true => rfl
        | false => exact (ready_nil hr (i := 3) (by subst hb; rfl) rfl (by kernel_rfl)).elim
      obtain rfl : b4 = true := by
        cases hb : b4 with
        | true => rfl
        | false => exact (ready_nil hr (i := 4) (by subst hb; rfl) rfl (by kernel_rfl)).elim
      obtain rfl : b6 = true := by
        cases hb : b6 with
        | true => rfl
        | false => exact (ready_nil hr (i := 6) (by subst hb; rfl) rfl (by kernel_rfl)).elim
      obtain rfl : b8 = true := by
        cases hb : b8 with
        | true => rfl
        | false => exact (ready_nil hr (i := 8) (by subst hb; rfl) rfl (by kernel_rfl)).elim
      obtain rfl : b9 = true := by
        cases hb : b9 with
        | true => rfl
        | false => exact (ready_nil hr (i := 9) (by subst hb; rfl) rfl (by kernel_rfl)).elim
      obtain rfl : b10 = true := by
        cases hb : b10 with
        | true => rfl
        | false => exact (ready_nil hr (i := 10) (by subst hb; rfl) rfl (by kernel_rfl)).elim
      exact hl rfl
    case hend =>
      rintro k a W ⟨⟨b0, b2, b3, b4, b6, b8, b9, b10, gr, r1, b, a, b1, T5, T72, T74, T75, T76, T78, T80, T81⟩, hl, rfl, hz⟩
      obtain rfl : b0 = true := (show true = b0 from congrArg (fun l => Array.getD l 0 false) hl).symm
      obtain rfl : b2 = true := (show true = b2 from congrArg (fun l => Array.getD l 2 false) hl).symm
      obtain rfl : b3 = true := (show true = b3 from congrArg (fun l => Array.getD l 3 false) hl).symm
      obtain rfl : b4 = true := (show true = b4 from congrArg (fun l => Array.getD l 4 false) hl).symm
      obtain rfl : b6 = true := (show true = b6 from congrArg (fun l => Array.getD l 6 false) hl).symm
      obtain rfl : b8 = true := (show true = b8 from congrArg (fun l => Array.getD l 8 false) hl).symm
      obtain rfl : b9 = true := (show true = b9 from congrArg (fun l => Array.getD l 9 false) hl).symm
      obtain rfl : b10 = true := (show true = b10 from congrArg (fun l => Array.getD l 10 false) hl).symm
      obtain ⟨h10, hnb, hcb⟩ := hz.p10 rfl
      obtain ⟨_, _, h9⟩ := hz.p9 rfl
      obtain ⟨_, _, hv6⟩ := hz.p6 rfl
      obtain ⟨_, _, hv8⟩ := hz.p8 rfl
      obtain ⟨_, hr2⟩ := hz.p2 rfl
      simp only at h10 h9 hv6 hv8 hr2 hnb hcb
      subst h10 h9
      have HVa := Lib.hid hv6
      have HVb1 := Lib.hid hv8
      have HNB := Lib.hid hnb
      have HLB := Lib.hid hcb
      have HR2 := Lib.hid hr2
      have HBB := Lib.hid (hz.bd.less (C' := (b, Obj.cells #[.int .i64 0, .int .i64 0, .int .i64 0, .int .i64 0, .int .i64 0, .slice none 0 0, .int .i64 0, .int .i64 0, .string ⟨#[]⟩, .slice none 0 0, .int .i64 0, .int .i64 0, .int .i64 0, .bool false] 60 (0, 0)) :: C) (C5.subE b gr C))
      have hH : Hid True := Lib.hid trivial
      have e2 : k + left #[true, true, true, true, true, true, true, true, true, true, true, false] = k + 1 := rfl
      rw [e2]
      clear hz hl e2 HB hv6 hv8 hnb hcb hr2
      have htl := HTL.out
      clear HTL
      subst htl
      simp only [C5.act]
      have hbb := HBB.out.at_ (.head _)
      have q0 := (blk_cell hbb 0).trans rfl
      have f0 := blk_free hbb 0
      have q1 := (blk_cell hbb 1).trans rfl
      have f1 := blk_free hbb 1
      have q2 := (blk_cell hbb 2).trans rfl
      have f2 := blk_free hbb 2
      have q3 := (blk_cell hbb 3).trans rfl
      have f3 := blk_free hbb 3
      have q4 := (blk_cell hbb 4).trans rfl
      have f4 := blk_free hbb 4
      have q5 := (blk_cell hbb 5).trans rfl
      have f5 := blk_free hbb 5
      have q6 := (blk_cell hbb 6).trans rfl
      have f6 := blk_free hbb 6
      have q7 := (blk_cell hbb 7).trans rfl
      have f7 := blk_free hbb 7
      have q8 := (blk_cell hbb 8).trans rfl
      have f8 := blk_free hbb 8
      have q9 := (blk_cell hbb 9).trans rfl
      have f9 := blk_free hbb 9
      have q10 := (blk_cell hbb 10).trans rfl
      have f10 := blk_free hbb 10
      have q11 := (blk_cell hbb 11).trans rfl
      have f11 := blk_free hbb 11
      have q12 := (blk_cell hbb 12).trans rfl
      have f12 := blk_free hbb 12
      have q13 := (blk_cell hbb 13).trans rfl
      have f13 := blk_free hbb 13
      clear hbb
      refine wpAnyU_ready (rs := [11]) (by kernel_rfl) (by simp) ?_
      refine AllReadyU.last rfl (by rfl) (fun Kn hKn => ?_) AllReadyU.nil
      go_simp
      refine hKn.out _ _ ?_
      clear hKn Kn
      try simp only [Act.put, List.setIfInBounds_toArray, List.set_cons_zero, List.set_cons_succ]
      refine wpAnyU_done (by kernel_rfl) ?_ _
      have HFN := Lib.hid (HBB.out.fill HLB.out HNB.out a b1 (10 + (r1 : Int)))
      clear HBB
      go_wp2_with fail
      go_meet
      exact ⟨b, 10 + (r1 : Int), a, b1, rfl, Lib.hid ⟨by have := HR2.out; omega, HVa.out, HVb1.out, HNB.out, HLB.out, HFN.out⟩⟩
  case rest =>
    obtain ⟨b, nn, a, b1, rfl, HALL⟩ := hcut
    have HNN := HALL.out.1
    have HVa := Lib.hid HALL.out.2.1
    have HVb1 := Lib.hid HALL.out.2.2.1
    have HNB := Lib.hid HALL.out.2.2.2.1
    have HCB := Lib.hid HALL.out.2.2.2.2.1
    clear HB
    have HB := Lib.hid HALL.out.2.2.2.2.2
    clear HALL
    have HLV := Lib.hid (bLeave HB.out HS.out HFU.out)
    obtain ⟨NX, hNX⟩ : ∃ NX, T.exits.length = NX := ⟨_, rfl⟩
    rw [hNX] at HLV
    have HNX := Lib.hid hNX
    clear HB hNX
    go_wp2_with fail
    ((with_reducible refine HLV.out.mono ?_); rintro ee wl ⟨rfl, ex, hex, hbd⟩)
    have HEX := Lib.hid hex
    have HBL := Lib.hid hbd
    have hbb := hbd.at_ (.head _)
    have q12 := (blk_cell hbb 12).trans rfl
    have f12 := blk_free hbb 12
    clear hex hbd hbb HLV
    go_upto_region 17 with (fail)
    have HBP := Lib.hid (HBL.out.put ⟨by decide, by decide, by decide⟩ HCB.out HNB.out 12 (.int .i64 (NX : Int)) (w' := wl))
    obtain ⟨ws, hws⟩ : ∃ ws : World, wl.setCell ⟨b, 12, none⟩ (.int .i64 (NX : Int)) = ws := ⟨_, rfl⟩
    rw [hws] at HBP
    rw [hws]
    clear hws q12 f12 HBL
    have hbs := HBP.out.at_ (.head _)
    have z0 : ws.cell? ⟨b, 0, none⟩ = some (.int .i64 4) := (blk_cell hbs 0).trans rfl
    have z1 : ws.cell? ⟨b, 1, none⟩ = some (.int .i64 a) := (blk_cell hbs 1).trans rfl
    have z2 : ws.cell? ⟨b, 2, none⟩ = some (.int .i64 b1) := (blk_cell hbs 2).trans rfl
    have z3 : ws.cell? ⟨b, 3, none⟩ = some (.int .i64 0) := (blk_cell hbs 3).trans rfl
    have z4 : ws.cell? ⟨b, 4, none⟩ = some (.int .i64 nn) := (blk_cell hbs 4).trans rfl
    have z5 : ws.cell? ⟨b, 5, none⟩ = some (.slice none 0 0) := (blk_cell hbs 5).trans rfl
    have z6 : ws.cell? ⟨b, 6, none⟩ = some (.int .i64 0) := (blk_cell hbs 6).trans rfl
    have z7 : ws.cell? ⟨b, 7, none⟩ = some (.int .i64 0) := (blk_cell hbs 7).trans rfl
    have z8 : ws.cell? ⟨b, 8, none⟩ = some (.string ⟨#[]⟩) := (blk_cell hbs 8).trans rfl
    have z9 : ws.cell? ⟨b, 9, none⟩ = some (.slice none 0 0) := (blk_cell hbs 9).trans rfl
    have z10 : ws.cell? ⟨b, 10, none⟩ = some (.int .i64 0) := (blk_cell hbs 10).trans rfl
    have z11 : ws.cell? ⟨b, 11, none⟩ = some (.int .i64 0) := (blk_cell hbs 11).trans rfl
    have z12 : ws.cell? ⟨b, 12, none⟩ = some (.int .i64 (NX : Int)) := (blk_cell hbs 12).trans rfl
    have z13 : ws.cell? ⟨b, 13, none⟩ = some (.bool false) := (blk_cell hbs 13).trans rfl
    have HAD := Lib.hid (bAdd HBP.out ⟨⟨4, a, b1, 0, nn, [], 0, 0, [], [], 0, 0, ((NX : Nat) : Int), false⟩, none, 0, none, 0⟩ (fits_none rfl rfl) (by have := HS.out.few; show T.ins.length ≤ 1000; omega))
    have HGR := Lib.hid (HS.out.leave (x := ⟨4, a, b1, 0, nn, [], 0, 0, [], [], 0, 0, ((NX : Nat) : Int), false⟩) HEX.out (.binary _ _ _ _ _ HVa.out HVb1.out (by omega) (by omega)) (by rw [HNX.out]) ⟨by simp, by simp⟩)
    have HILN : Hid ((T.exit ex).ins.length = T.ins.length) := Lib.hid rfl
    clear hbs HBP
    go_wp2_with fail
    ((refine (show Calls Tryd.prog _ #[.pointer (some ⟨p, 0, none⟩), .agg (RI.cells ⟨⟨4, a, b1, 0, nn, [], 0, 0, [], [], 0, 0, ((NX : Nat) : Int), false⟩, none, 0, none, 0⟩).toArray] ws _ from HAD.out).mono ?_); rintro ee wa ⟨rfl, hbd⟩)
    have HB := Lib.hid hbd
    clear hbd HAD z0 z1 z2 z3 z4 z5 z6 z7 z8 z9 z10 z11 z12 z13
    obtain ⟨T1, hT1⟩ : ∃ X, (T.exit ex).push ⟨4, a, b1, 0, nn, [], 0, 0, [], [], 0, 0, ((NX : Nat) : Int), false⟩ = X := ⟨_, rfl⟩
    have HVc := Lib.hid (VB.last HGR.out (rfl) (x := ⟨4, a, b1, 0, nn, [], 0, 0, [], [], 0, 0, ((NX : Nat) : Int), false⟩) rfl)
    rw [hT1] at HB HGR HVc
    have HGG := Lib.hid HGR.out
    replace HS := Lib.hid (HGR.out.start HS.out (by have := HGG.out.len; have := HS.out.few; have := HGR.out.len; omega))
    clear hT1 HGR
    obtain ⟨c, hc⟩ : ∃ c : Int, ((T.ins.length : Nat) : Int) = c := ⟨_, rfl⟩
    have hc2 : (((T.exit ex).ins.length : Nat) : Int) = c := hc
    rw [hc] at HVc
    try rw [hc2]
    try rw [hc]
    have HNN1 := HNN
    clear hc hc2 HNX HEX HILN HNB HCB
    have HNX := Lib.hid (bNext HB.out (2) (by have := HS.out.p1; omega))
    clear HB
    go_wp2_with fail
    ((with_reducible refine HNX.out.mono ?_); rintro ee w21 ⟨r1, rfl, hr1, hbd⟩)
    have HB := Lib.hid hbd
    clear hbd HNX
    go_upto_region 19 with (fail)
    have HLT := Lib.hid HB.out.lt
    have HNB := Lib.hid HB.out.low'
    replace HB := Lib.hid (HB.out.more (.cells #[.int .i64 5, .int .i64 c, .int .i64 0, .int .i64 0, .int .i64 r1, .slice none 0 0, .int .i64 0, .int .i64 0, .string ⟨#[]⟩, .slice none 0 0, .int .i64 0, .int .i64 0, .int .i64 0, .bool false] 60))
    obtain ⟨w22, hw22⟩ : ∃ V : World, w21.alloc (.cells #[.int .i64 5, .int .i64 c, .int .i64 0, .int .i64 0, .int .i64 r1, .slice none 0 0, .int .i64 0, .int .i64 0, .string ⟨#[]⟩, .slice none 0 0, .int .i64 0, .int .i64 0, .int .i64 0, .bool false] 60) = V := ⟨_, rfl⟩
    obtain ⟨b2, hb2⟩ : ∃ b, w21.heap.size = b := ⟨_, rfl⟩
    rw [hw22, hb2] at HB
    rw [hb2] at HNB HLT
    rw [hw22]
    try rw [hb2]
    have HCB := Lib.hid (show ∀ x ∈ ((b, Obj.cells (#[.int .i64 4, .int .i64 a, .int .i64 b1, .int .i64 0, .int .i64 nn, .slice none 0 0, .int .i64 0, .int .i64 0, .string ⟨#[]⟩, .slice none 0 0, .int .i64 0, .int .i64 0, .int .i64 0, .bool false].setIfInBounds 12 (.int .i64 (NX : Int))) 60 (0, 0)) :: C), x.1 ≠ b2 from fun x hx => by have := HLT.out x hx; omega)
    clear hw22 hb2 HLT
    have HLV := Lib.hid (bLeave HB.out HS.out HFU.out)
    obtain ⟨NX, hNX⟩ : ∃ NX, T1.exits.length = NX := ⟨_, rfl⟩
    rw [hNX] at HLV
    have HNX := Lib.hid hNX
    clear HB hNX
    go_wp2_with fail
    ((with_reducible refine HLV.out.mono ?_); rintro ee wl ⟨rfl, ex, hex, hbd⟩)
    have HEX := Lib.hid hex
    have HBL := Lib.hid hbd
    have hbb := hbd.at_ (.head _)
    have q12 := (blk_cell hbb 12).trans rfl
    have f12 := blk_free hbb 12
    clear hex hbd hbb HLV
    go_upto_region 20 with (fail)
    have HBP := Lib.hid (HBL.out.put ⟨by decide, by decide, by decide⟩ HCB.out HNB.out 12 (.int .i64 (NX : Int)) (w' := wl))
    obtain ⟨ws, hws⟩ : ∃ ws : World, wl.setCell ⟨b2, 12, none⟩ (.int .i64 (NX : Int)) = ws := ⟨_, rfl⟩
    rw [hws] at HBP
    rw [hws]
    clear hws q12 f12 HBL
    have hbs := HBP.out.at_ (.head _)
    have z0 : ws.cell? ⟨b2, 0, none⟩ = some (.int .i64 5) := (blk_cell hbs 0).trans rfl
    have z1 : ws.cell? ⟨b2, 1, none⟩ = some (.int .i64 c) := (blk_cell hbs 1).trans rfl
    have z2 : ws.cell? ⟨b2, 2, none⟩ = some (.int .i64 0) := (blk_cell hbs 2).trans rfl
    have z3 : ws.cell? ⟨b2, 3, none⟩ = some (.int .i64 0) := (blk_cell hbs 3).trans rfl
    have z4 : ws.cell? ⟨b2, 4, none⟩ = some (.int .i64 r1) := (blk_cell hbs 4).trans rfl
    have z5 : ws.cell? ⟨b2, 5, none⟩ = some (.slice none 0 0) := (blk_cell hbs 5).trans rfl
    have z6 : ws.cell? ⟨b2, 6, none⟩ = some (.int .i64 0) := (blk_cell hbs 6).trans rfl
    have z7 : ws.cell? ⟨b2, 7, none⟩ = some (.int .i64 0) := (blk_cell hbs 7).trans rfl
    have z8 : ws.cell? ⟨b2, 8, none⟩ = some (.string ⟨#[]⟩) := (blk_cell hbs 8).trans rfl
    have z9 : ws.cell? ⟨b2, 9, none⟩ = some (.slice none 0 0) := (blk_cell hbs 9).trans rfl
    have z10 : ws.cell? ⟨b2, 10, none⟩ = some (.int .i64 0) := (blk_cell hbs 10).trans rfl
    have z11 : ws.cell? ⟨b2, 11, none⟩ = some (.int .i64 0) := (blk_cell hbs 11).trans rfl
    have z12 : ws.cell? ⟨b2, 12, none⟩ = some (.int .i64 (NX : Int)) := (blk_cell hbs 12).trans rfl
    have z13 : ws.cell? ⟨b2, 13, none⟩ = some (.bool false) := (blk_cell hbs 13).trans rfl
    have HAD := Lib.hid (bAdd HBP.out ⟨⟨5, c, 0, 0, r1, [], 0, 0, [], [], 0, 0, ((NX : Nat) : Int), false⟩, none, 0, none, 0⟩ (fits_none rfl rfl) (by have := HS.out.few; show T1.ins.length ≤ 1000; omega))
    have HGR := Lib.hid (HS.out.leave (x := ⟨5, c, 0, 0, r1, [], 0, 0, [], [], 0, 0, ((NX : Nat) : Int), false⟩) HEX.out (.guard _ _ _ _ HVc.out (by omega) (by omega)) (by rw [HNX.out]) ⟨by simp, by simp⟩)
    have HILN : Hid ((T1.exit ex).ins.length = T1.ins.length) := Lib.hid rfl
    clear hbs HBP
    go_wp2_with fail
    ((refine (show Calls Tryd.prog _ #[.pointer (some ⟨p, 0, none⟩), .agg (RI.cells ⟨⟨5, c, 0, 0, r1, [], 0, 0, [], [], 0, 0, ((NX : Nat) : Int), false⟩, none, 0, none, 0⟩).toArray] ws _ from HAD.out).mono ?_); rintro ee wa ⟨rfl, hbd⟩)
    have HB := Lib.hid hbd
    clear hbd HAD z0 z1 z2 z3 z4 z5 z6 z7 z8 z9 z10 z11 z12 z13
    go_wp2_with fail
    refine bodyPost_end (results_none rfl _ _ _) rfl ?_
    obtain ⟨l, hl1, hl2⟩ := (HGG.out.trans HGR.out).pre
    exact ⟨rfl, _, ⟨(HGG.out.trans HGR.out).good, (HGG.out.trans HGR.out).body, l, hl1, by omega⟩, HB.out.less (fun x hx => (.tail _ (.tail _ hx)))⟩
end
end Go.Proofs.YtnbpgipbfejllaaDoor
