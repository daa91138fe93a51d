/- graph: the builder's step. -/
import Derived.Test.YtnbpgipbfejllaaDoorMG6
namespace Go.Proofs.YtnbpgipbfejllaaDoor
open Go.RowKit Go.Lib
set_option linter.unusedVariables false
set_option linter.unusedSimpArgs false

theorem VB.last {P d : Nat} {T T' : TR} {x : TI} (h : Grow P d T T') (e : T'.ins = T.ins ++ [x]) (hx : hasOp x.op = true) : VB T' T'.ins.length ((T.ins.length : Nat) : Int) := by
  refine ⟨T.ins.length, rfl, by rw [e, List.length_append]; simp, ?_⟩
  rw [e]
  simp [List.getD_eq_getElem?_getD]
  exact hx
theorem two_at {r : Nat} (h : r < 2) : (#[Value.int .i64 10, .int .i64 11])[r]? = some (.int .i64 (10 + (r : Int))) := by
  rcases (show r = 0 ∨ r = 1 by omega) with rfl | rfl <;> rfl
theorem BD.fill {n : Nat} {w0 W : World} {p m : Nat} {T : TR} {fu pa : Int} {C : List (Nat × Obj)} {b : Nat} (h : BD n w0 p m T fu pa ((b, .cells #[.int .i64 0, .int .i64 0, .int .i64 0, .int .i64 0, .int .i64 0, .slice none 0 0, .int .i64 0, .int .i64 0, .string ⟨#[]⟩, .slice none 0 0, .int .i64 0, .int .i64 0, .int .i64 0, .bool false] 60 (0, 0)) :: C) W) (hC : ∀ x ∈ C, x.1 ≠ b) (hn : n ≤ b) (a b1 nn : Int) :
    BD n w0 p m T fu pa ((b, .cells #[.int .i64 4, .int .i64 a, .int .i64 b1, .int .i64 0, .int .i64 nn, .slice none 0 0, .int .i64 0, .int .i64 0, .string ⟨#[]⟩, .slice none 0 0, .int .i64 0, .int .i64 0, .int .i64 0, .bool false] 60 (0, 0)) :: C) ((((((((((((((W.setCell ⟨b, 0, none⟩ (.int .i64 4)).setCell ⟨b, 1, none⟩ (.int .i64 a)).setCell ⟨b, 2, none⟩ (.int .i64 b1)).setCell ⟨b, 3, none⟩ (.int .i64 0)).setCell ⟨b, 4, none⟩ (.int .i64 nn)).setCell ⟨b, 5, none⟩ (.slice none 0 0)).setCell ⟨b, 6, none⟩ (.int .i64 0)).setCell ⟨b, 7, none⟩ (.int .i64 0)).setCell ⟨b, 8, none⟩ (.string ⟨#[]⟩)).setCell ⟨b, 9, none⟩ (.slice none 0 0)).setCell ⟨b, 10, none⟩ (.int .i64 0)).setCell ⟨b, 11, none⟩ (.int .i64 0)).setCell ⟨b, 12, none⟩ (.int .i64 0)).setCell ⟨b, 13, none⟩ (.bool false)) := by
  have hb := h.at_ (.head _)
  dsimp only at hb
  have h5 := blk_set (blk_set (blk_set (blk_set (blk_set (blk_set (blk_set (blk_set (blk_set (blk_set (blk_set (blk_set (blk_set (blk_set (hb) 0 (.int .i64 4)) 1 (.int .i64 a)) 2 (.int .i64 b1)) 3 (.int .i64 0)) 4 (.int .i64 nn)) 5 (.slice none 0 0)) 6 (.int .i64 0)) 7 (.int .i64 0)) 8 (.string ⟨#[]⟩)) 9 (.slice none 0 0)) 10 (.int .i64 0)) 11 (.int .i64 0)) 12 (.int .i64 0)) 13 (.bool false)
  simp only [List.setIfInBounds_toArray, List.set_cons_zero, List.set_cons_succ] at h5
  exact h.swap (keep_set (keep_set (keep_set (keep_set (keep_set (keep_set (keep_set (keep_set (keep_set (keep_set (keep_set (keep_set (keep_set (keep_set (Keep.refl (fun k => k = b) W) 0 (.int .i64 4)) 1 (.int .i64 a)) 2 (.int .i64 b1)) 3 (.int .i64 0)) 4 (.int .i64 nn)) 5 (.slice none 0 0)) 6 (.int .i64 0)) 7 (.int .i64 0)) 8 (.string ⟨#[]⟩)) 9 (.slice none 0 0)) 10 (.int .i64 0)) 11 (.int .i64 0)) 12 (.int .i64 0)) 13 (.bool false)) h5 ⟨by decide, by decide, by decide⟩ hC hn
/-- What the operations of step's region 15 have brought so far. -/
structure C5 where
  (b0 b2 b3 b4 b6 b8 b9 b10 : Bool)
  (gr r1 b : Nat)
  (a b1 : Int)
  (T5 T72 T74 T75 T76 T78 T80 T81 : Value)
def C5.l (z : C5) : Array Bool := #[z.b0, true, z.b2, z.b3, z.b4, true, z.b6, true, z.b8, z.b9, z.b10, false]
def C5.act (z : C5) (p m : Nat) (tl : List Value) : Act := ⟨((.pointer (some ⟨p, 0, none⟩) : Value) :: undef :: .pointer (some ⟨m, 0, none⟩) :: undef :: undef :: z.T5 :: undef :: undef :: undef :: undef :: undef :: undef :: undef :: undef :: undef :: .pointer (some ⟨p, 0, none⟩) :: .pointer (some ⟨p, 0, none⟩) :: .pointer (some ⟨p, 0, none⟩) :: .pointer (some ⟨m, 0, none⟩) :: .pointer (some ⟨m, 0, none⟩) :: .int .i64 5 :: .bool false :: .bool false :: undef :: undef :: undef :: undef :: undef :: undef :: undef :: undef :: undef :: undef :: undef :: undef :: undef :: undef :: undef :: .bool false :: .bool false :: .bool false :: .bool false :: undef :: undef :: undef :: undef :: undef :: undef :: undef :: undef :: undef :: undef :: undef :: undef :: undef :: undef :: .bool false :: .bool false :: undef :: undef :: undef :: undef :: undef :: undef :: undef :: undef :: undef :: undef :: undef :: undef :: .bool true :: .bool true :: z.T72 :: .pointer (some ⟨m, 0, none⟩) :: z.T74 :: z.T75 :: z.T76 :: .pointer (some ⟨p, 0, none⟩) :: z.T78 :: .pointer (some ⟨p, 0, none⟩) :: z.T80 :: z.T81 :: tl).toArray, []⟩
def ZO5 : Obj := .cells #[.int .i64 0, .int .i64 0, .int .i64 0, .int .i64 0, .int .i64 0, .slice none 0 0, .int .i64 0, .int .i64 0, .string ⟨#[]⟩, .slice none 0 0, .int .i64 0, .int .i64 0, .int .i64 0, .bool false] 60 (0, 0)
def RO5 : Obj := .cells #[.int .i64 10, .int .i64 11] 3 (0, 0)
def opt5 (b : Bool) (x : Nat × Obj) : List (Nat × Obj) := match b with | true => [x] | false => []
def C5.bl (b10 b0 : Bool) (b gr : Nat) (C : List (Nat × Obj)) : List (Nat × Obj) := opt5 b10 (b, ZO5) ++ (opt5 b0 (gr, RO5) ++ C)
theorem C5.sub0 (b10 : Bool) (b gr : Nat) (C : List (Nat × Obj)) : ∀ x ∈ C5.bl b10 true b gr C, x ∈ (gr, RO5) :: C5.bl b10 false b 0 C := by
  intro x hx
  cases b10 with
  | false => exact hx
  | true =>
    rcases List.mem_cons.1 hx with rfl | hx
    · exact .tail _ (.head _)
    rcases List.mem_cons.1 hx with rfl | hx
    · exact .head _
    · exact .tail _ (.tail _ hx)
theorem C5.mem0 (b10 : Bool) (b gr : Nat) (C : List (Nat × Obj)) : (gr, RO5) ∈ C5.bl b10 true b gr C := by
  cases b10 <;> simp [C5.bl, opt5]
theorem C5.memC (b0 : Bool) (gr : Nat) (C : List (Nat × Obj)) {b10 : Bool} {b : Nat} {x : Nat × Obj} (hx : x ∈ C) : x ∈ C5.bl b10 b0 b gr C := by
  cases b10 <;> cases b0 <;> simp [C5.bl, opt5, hx]
theorem C5.subE (b gr : Nat) (C : List (Nat × Obj)) : ∀ x ∈ (b, ZO5) :: C, x ∈ C5.bl true true b gr C := by
  intro x hx
  rcases List.mem_cons.1 hx with rfl | hx
  · exact .head _
  · exact .tail _ (.tail _ hx)
structure C5.ok (z : C5) (n : Nat) (w0 : World) (p m : Nat) (T : TR) (fu pa : Int) (C : List (Nat × Obj)) (W : World) : Prop where
  bd : BD n w0 p m T fu pa (C5.bl z.b10 z.b0 z.b z.gr C) W
  p0 : z.b0 = true → z.T72 = .slice (some ⟨z.gr, 0, none⟩) 2 2
  p2 : z.b2 = true → z.T74 = .int .i64 (z.r1 : Int) ∧ z.r1 < 2
  p3 : z.b3 = true → z.b0 = true ∧ z.b2 = true ∧ z.T75 = .pointer (some ⟨z.gr, z.r1, none⟩)
  p4 : z.b4 = true → z.b3 = true ∧ z.T76 = .int .i64 (10 + (z.r1 : Int))
  p6 : z.b6 = true → z.b2 = true ∧ z.T78 = .int .i64 z.a ∧ VB T T.ins.length z.a
  p8 : z.b8 = true → z.b6 = true ∧ z.T80 = .int .i64 z.b1 ∧ VB T T.ins.length z.b1
  p9 : z.b9 = true → z.b4 = true ∧ z.b8 = true ∧ z.T81 = .agg #[.int .i64 4, .int .i64 z.a, .int .i64 z.b1, .int .i64 0, .int .i64 (10 + (z.r1 : Int)), .slice none 0 0, .int .i64 0, .int .i64 0, .string ⟨#[]⟩, .slice none 0 0, .int .i64 0, .int .i64 0, .int .i64 0, .bool false]
  p10 : z.b10 = true → z.T5 = .pointer (some ⟨z.b, 0, none⟩) ∧ n ≤ z.b ∧ ∀ x ∈ C, x.1 ≠ z.b

theorem next_ex {n0 p : Nat} {w : World} (h : NU n0 w p) (n : Int) (hn : 1 ≤ n ∧ n ≤ 1000000) :
    ∃ r : Int, (0 ≤ r ∧ r < n) ∧ Calls Tryd.prog 73 #[.pointer (some ⟨p, 0, none⟩), .int .i64 n] w fun e w' => e = .returned (.int .i64 r) ∧ NU n0 w' p ∧ Keep (fun k => k = p) w w' := by
  have H := Lib.hid h
  obtain ⟨AL, nl, cl, xs, k, hb, h1, h2, h3, h4, h5⟩ := h
  have c0 : w.cell? ⟨p, 0, none⟩ = some (.slice AL nl cl) := by rw [blk_cell hb]; rfl
  have c1 : w.cell? ⟨p, 1, none⟩ = some (.int .i64 (k : Int)) := by rw [blk_cell hb]; rfl
  have f1 : w.frozen? ⟨p, 1, none⟩ = false := blk_free hb 1
  have hn1 : decide (n < 1) = false := by simp; omega
  have HB := Lib.hid hb
  have H3 := Lib.hid h3
  have H4 := Lib.hid h4
  clear hb h3 h4
  by_cases hk : k < nl
  · have hb1 : decide (nl ≤ k) = false := by simp; omega
    obtain ⟨bf, of, rfl, x0⟩ := H3.out.at_ k hk
    obtain ⟨a, ha⟩ : ∃ a, xs.getD k 0 = a := ⟨_, rfl⟩
    rw [ha] at x0
    obtain ⟨r, hr, hM⟩ := mod_any a n hn
    have HM := Lib.hid hM
    refine ⟨r, hr, ?_⟩
    have hne : bf ≠ p := by have := H4.out (by omega) _ rfl; simp only at this; omega
    go_enter Tryd.func73, Tryd.ntmps73
    go_wp2_with fail
    go_quiet (fail)
    go_wp2_with fail
    have hk0 := keep_set (Keep.mono (keep_drewN (fun _ => False) w nq) (F' := fun k => k = p) (fun _ => False.elim)) 1 (.int .i64 ((k : Int) + 1))
    have hb2 := blk_set (w := w.drewN nq) HB.out 1 (.int .i64 ((k : Int) + 1))
    obtain ⟨W, hW⟩ : ∃ W, (w.drewN nq).setCell ⟨p, 1, none⟩ (.int .i64 ((k : Int) + 1)) = W := ⟨_, rfl⟩
    rw [hW] at hk0 hb2 ⊢
    have d0 : W.cell? ⟨p, 0, none⟩ = some (.slice (some ⟨bf, of, none⟩) nl cl) := by rw [blk_cell hb2]; rfl
    have d1 : W.cell? ⟨p, 1, none⟩ = some (.int .i64 ((k : Int) + 1)) := by rw [blk_cell hb2]; rfl
    have y0 : W.cell? ⟨bf, of + k, none⟩ = some (.int .i64 a) := cell_kept hk0 x0 hne
    have hI := H3.out.keep hk0 (fun b e hf => by cases e; exact hne hf)
    have HP := Lib.hid (show NU n0 W p from ⟨_, nl, cl, xs, k + 1, hb2, by omega, h2, hI, H4.out, h5⟩)
    have HK := Lib.hid hk0
    clear hk0 hb2 hW hI hM x0 c0 c1 f1
    go_quiet (first | (go_at_call 35; exact quiet_l (HM.out _)))
    go_wp2_with fail
    go_ret
    exact ⟨rfl, HP.out.keep (F := fun _ => False) (keep_drewN _ _ _) id (fun _ => False.elim), Keep.trans HK.out (keep_drewN _ _ _)⟩
  · obtain rfl : k = nl := by omega
    have hb1 : decide (k ≤ k) = true := by simp
    refine ⟨0, by omega, ?_⟩
    go_enter Tryd.func73, Tryd.ntmps73
    go_wp2_with fail
    go_quiet (fail)
    go_wp2_with fail
    go_ret
    exact ⟨rfl, H.out.keep (F := fun _ => False) (keep_drewN _ _ _) id (fun _ => False.elim), keep_drewN _ _ _⟩
section
variable {n : Nat} {w0 w : World} {p m : Nat} {T : TR} {fu : Int} {pa : Nat} {C : List (Nat × Obj)}
theorem bNext_ex (h : BD n w0 p m T fu (pa : Int) C w) (c : Int) (hc : 1 ≤ c ∧ c ≤ 1000000) : ∃ r : Int, (0 ≤ r ∧ r < c) ∧ Calls Tryd.prog 73 #[.pointer (some ⟨m, 0, none⟩), .int .i64 c] w fun e w' => e = .returned (.int .i64 r) ∧ BD n w0 p m T fu (pa : Int) C w' := by
  have hn : NU n w m := let ⟨_, _, _, _, _, _, h⟩ := h; h.num
  obtain ⟨r, hr, hcl⟩ := next_ex hn c hc
  exact ⟨r, hr, hcl.mono fun e w' ⟨a, b, c⟩ => ⟨a, h.num (Keep.mono c (fun _ => .inl)) b⟩⟩
end
end Go.Proofs.YtnbpgipbfejllaaDoor
