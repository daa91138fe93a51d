/- Install: the walk of InstallStays. -/
import Derived.Test.YtnhajhejkecihaaI17
namespace Go.Proofs.Ytnhajhejkecihaa
open Go.RowKit Go.Lib
set_option linter.unusedVariables false
set_option linter.unusedSimpArgs false

def zcells : Array Value := #[.int .i64 0, .int .i64 0, .string ⟨#[]⟩, .slice none 0 0, .slice none 0 0, .slice none 0 0, .int .i64 0, .int .i64 0, .slice none 0 0]
/-- A module's block. -/
def mobj (b : Bytes) (x : MX) : Obj := .cells (mcells b x).toArray 34 (0, 0)
/-- A block that was made and then stored to. -/
theorem ST.stored {n : Nat} {w0 w : World} {p : Nat} {s : MS} {C : List (Nat × Obj)} (h : ST n w0 p s C w) (t : TypeId) (old new : Array Value) :
    ST n w0 p s ((w.heap.size, .cells new t (0, 0)) :: C) ((w.alloc (.cells old t)).setRow w.heap.size new) := by
  have hl := h.low
  obtain ⟨r, h1, h2, h3⟩ := h
  have k : Since w.heap.size w ((w.alloc (.cells old t)).setRow w.heap.size new) := Keep.trans (Since.of ((Keep.refl (fun _ => False) w).alloc' _)) (Keep.mono setRow_keep (fun i e => by omega))
  refine ⟨r, h1.since k, Keep.trans h2 (Since.mono k hl), fun x hx => ?_⟩
  rcases List.mem_cons.1 hx with rfl | hx
  · exact ⟨setRow_heap _ _ _ _ _ _ (heap_alloc_new w _), fun hf => by have := h1.foot_lt _ hf; simp at this⟩
  · exact ⟨(k.block _ (blk_lt (h3 x hx).1) (by have := blk_lt (h3 x hx).1; omega)).trans (h3 x hx).1, (h3 x hx).2⟩
set_option maxRecDepth 100000 in
set_option maxHeartbeats 4000000 in
theorem stays_any (w : World) (x y : Nat) (hx : x < 256) (hy : y < 256) : Calls Try.prog 3 #[.int .u8 x, .int .u8 y] w fun e w' => e = .returned (.bool true) ∧ Since w.heap.size w w' := by
  have HS := Lib.hid (sanity_any w)
  have HN := Lib.hid (fun W : World => st_new W 2 (by omega))
  have HMA := Lib.hid (fun (W : World) (n : Nat) (hn : 1 ≤ n ∧ n ≤ 60) => module_any W 3 n (.inl rfl) hn)
  have HMB := Lib.hid (fun (W : World) (n : Nat) (hn : 1 ≤ n ∧ n ≤ 60) => module_any W 5 n (.inr rfl) hn)
  obtain ⟨na, hna⟩ : ∃ na, 1 + x % 60 = na := ⟨_, rfl⟩
  obtain ⟨nb, hnb⟩ : ∃ nb, 1 + y % 60 = nb := ⟨_, rfl⟩
  have hna2 : 1 ≤ na ∧ na ≤ 60 := by omega
  have hnb2 : 1 ≤ nb ∧ nb ≤ 60 := by omega
  have hnai : 1 + (x : Int) % 60 = (na : Int) := by omega
  have hnbi : 1 + (y : Int) % 60 = (nb : Int) := by omega
  have HAI := Lib.hid hnai
  have HBI := Lib.hid hnbi
  clear hna hnb hnai hnbi
  go_enter Try.func3, Try.ntmps3
  go_wp2_with fail
  ((with_reducible refine HS.out.mono ?_); rintro e w1 ⟨rfl, hs⟩)
  have H01 := Lib.hid hs
  clear hs HS
  go_wp2_with fail
  ((with_reducible refine (show Calls Try.prog _ #[.int .i64 2] w1 _ from HN.out w1).mono ?_); rintro e w2 ⟨p, rfl, s0⟩)
  have S0 := Lib.hid s0
  clear s0 HN
  go_wp2_with fail
  rw [HAI.out]
  ((refine (show Calls Try.prog _ #[.agg #[.int .i64 0, .int .i64 3, .int .i64 na]] w2 _ from HMA.out w2 na hna2).mono ?_); rintro e w3 ⟨ba, xa, hba, hoa, rfl, hk3⟩)
  have S1 := Lib.hid ((S0.out.later hk3).stored 34 zcells (mcells ba xa).toArray)
  obtain ⟨n, hn⟩ : ∃ n, w1.heap.size = n := ⟨_, rfl⟩
  obtain ⟨ca, hca⟩ : ∃ ca, (mcells ba xa).toArray = ca := ⟨_, rfl⟩
  have hmva : modV ba xa = .agg ca := by rw [← hca]; rfl
  have hsza : ca.size = 9 := by rw [← hca]; rfl
  rw [hca] at S1 hoa
  rw [hn] at S0 S1
  have HSZA := Lib.hid hsza
  have HBA := Lib.hid (show 0 < ba.length ∧ ba.length ≤ 60 by omega)
  have HOA := Lib.hid hoa
  have HCA := Lib.hid hca
  have HMVA := Lib.hid hmva
  have HNW := Lib.hid hn
  rw [hmva]
  clear S0 hk3 HMA hba hoa hmva hca hsza hn
  go_wp2_with (refine wpList_store_row rfl 34 (.tmp 8) (.tmp 38) rfl w3.heap.size 34 zcells ca rfl rfl (by exact heap_alloc_new _ _) (by rw [HSZA.out]; kernel_rfl) (by rw [HSZA.out]; rfl) HOA.out ?_)
  obtain ⟨w4, hw4⟩ : ∃ w4, ((w3.alloc (.cells zcells 34)).setRow w3.heap.size ca) = w4 := ⟨_, rfl⟩
  unfold zcells at S1 hw4
  rw [hw4] at S1
  rw [hw4]
  obtain ⟨m8, hm8⟩ : ∃ m8, w3.heap.size = m8 := ⟨_, rfl⟩
  rw [hm8] at S1 ⊢
  clear hw4 hm8
  rw [HBI.out]
  ((refine (show Calls Try.prog _ #[.agg #[.int .i64 0, .int .i64 5, .int .i64 nb]] w4 _ from HMB.out w4 nb hnb2).mono ?_); rintro e w5 ⟨bb, xb, hbb, hob, rfl, hk5⟩)
  have S2 := Lib.hid ((S1.out.later hk5).stored 34 zcells (mcells bb xb).toArray)
  obtain ⟨cb, hcb⟩ : ∃ cb, (mcells bb xb).toArray = cb := ⟨_, rfl⟩
  have hmvb : modV bb xb = .agg cb := by rw [← hcb]; rfl
  have hszb : cb.size = 9 := by rw [← hcb]; rfl
  have hb2 : cb[2]? = some (.string (sb bb)) := by rw [← hcb]; rfl
  rw [hcb] at S2 hob
  have HSZB := Lib.hid hszb
  have HB2 := Lib.hid hb2
  have HBB := Lib.hid (show 0 < bb.length ∧ bb.length ≤ 60 by omega)
  have HOB := Lib.hid hob
  have HMVB := Lib.hid hmvb
  rw [hmvb]
  clear S1 hk5 HMB hbb hob hmvb hcb hszb hb2
  go_wp2_with (first | (refine wpList_store_row rfl 34 (.tmp 9) (.tmp 44) rfl w5.heap.size 34 zcells cb rfl rfl (by exact heap_alloc_new _ _) (by rw [HSZB.out]; kernel_rfl) (by rw [HSZB.out]; rfl) HOB.out ?_) | (refine wpList_load_row rfl 34 (.tmp 8) rfl m8 rfl 34 ca (0, 0) _ (by exact S2.out.at_ (.tail _ (.head _))) Try.underlying34 rfl (by rw [HSZA.out]; kernel_rfl) ?_))
  obtain ⟨w6, hw6⟩ : ∃ w6, ((w5.alloc (.cells zcells 34)).setRow w5.heap.size cb) = w6 := ⟨_, rfl⟩
  unfold zcells at S2 hw6
  rw [hw6] at S2 ⊢
  obtain ⟨m9, hm9⟩ : ∃ m9, w5.heap.size = m9 := ⟨_, rfl⟩
  rw [hm9] at S2 ⊢
  obtain ⟨C, hC⟩ : ∃ C, [(m9, Obj.cells cb 34 (0, 0)), (m8, Obj.cells ca 34 (0, 0))] = C := ⟨_, rfl⟩
  have HC9 : Hid ((m9, Obj.cells cb 34 (0, 0)) ∈ C) := Lib.hid (by rw [← hC]; simp)
  have HC8 : Hid ((m8, Obj.cells ca 34 (0, 0)) ∈ C) := Lib.hid (by rw [← hC]; simp)
  rw [hC] at S2
  clear hw6 hm9 hC
  skip
  ((refine ((by rw [← HMVA.out]; exact st_add S2.out (b := ba) xa (by have := HBA.out; omega) (by decide) (y0_place ba HBA.out) (by decide)) : Calls Try.prog _ #[.pointer (some ⟨p, 0, none⟩), .agg ca] _ fun e w' => e = .returned (.tuple #[.int .i64 0, .int .i64 0]) ∧ ST n w1 p (y1 ba) C w').mono ?_); rintro e w7 ⟨rfl, s1⟩)
  have S3 := Lib.hid s1
  clear S2 s1
  go_wp2_with fail
  ((refine (st_safe S3.out (c := 0) (show 0 < 2 by decide) (show (-1 : Int) < 0 by decide) : Calls Try.prog _ #[.pointer (some ⟨p, 0, none⟩), .int .i64 0] _ fun e w' => e = .returned (.int .i64 0) ∧ ST n w1 p (y2 ba) C w').mono ?_); rintro e w8 ⟨rfl, s1⟩)
  have S4 := Lib.hid s1
  clear S3 s1
  go_wp2_with fail
  ((refine (st_safe S4.out (c := 1) (show 1 < 2 by decide) (show (-1 : Int) < 0 by decide) : Calls Try.prog _ #[.pointer (some ⟨p, 0, none⟩), .int .i64 1] _ fun e w' => e = .returned (.int .i64 0) ∧ ST n w1 p (y3 ba) C w').mono ?_); rintro e w9 ⟨rfl, s1⟩)
  have S5 := Lib.hid s1
  clear S4 s1
  go_wp2_with fail
  ((refine (st_free S5.out : Calls Try.prog _ #[.pointer (some ⟨p, 0, none⟩)] _ fun e w' => e = .returned (.int .i64 ((16 * frees (takenB (y3 ba).all) 256 : Nat) : Int)) ∧ ST n w1 p (y3 ba) C w').mono ?_); rintro e w10 ⟨rfl, s1⟩)
  have S6 := Lib.hid s1
  clear S5 s1
  obtain ⟨f3, hf3⟩ : ∃ f3, 16 * frees (takenB (y3 ba).all) 256 = f3 := ⟨_, rfl⟩
  rw [hf3]
  rw [y3_free ba] at hf3
  have HF3 := Lib.hid hf3
  clear hf3
  go_wp2_with fail
  ((refine (st_enter_ok S6.out (c := 1) (show 1 < 2 by decide) 0 (show (y3 ba).find 0 = some 0 from rfl) (show (-1 : Int) < 0 by decide) (by rfl) : Calls Try.prog _ #[.pointer (some ⟨p, 0, none⟩), .int .i64 1, .int .i64 0] _ fun e w' => e = .returned (.tuple #[.string (sb ba), .int .i64 0]) ∧ ST n w1 p (y4 ba) C w').mono ?_); rintro e w11 ⟨rfl, s1⟩)
  have S7 := Lib.hid s1
  clear S6 s1
  go_wp2_with fail
  ((refine (st_drop S7.out 0 (show (y4 ba).find 0 = some 0 from rfl) : Calls Try.prog _ #[.pointer (some ⟨p, 0, none⟩), .int .i64 0] _ fun e w' => e = .returned (.int .i64 0) ∧ ST n w1 p (y5 ba) C w').mono ?_); rintro e w12 ⟨rfl, s1⟩)
  have S8 := Lib.hid s1
  clear S7 s1
  go_wp2_with fail
  ((refine (st_safe S8.out (c := 0) (show 0 < 2 by decide) (show (-1 : Int) < 0 by decide) : Calls Try.prog _ #[.pointer (some ⟨p, 0, none⟩), .int .i64 0] _ fun e w' => e = .returned (.int .i64 0) ∧ ST n w1 p (y6 ba) C w').mono ?_); rintro e w13 ⟨rfl, s1⟩)
  have S9 := Lib.hid s1
  clear S8 s1
  have hm9 := S9.out.at_ HC9.out
  go_wp2_with (refine wpList_load_row rfl 34 (.tmp 9) rfl m9 rfl 34 cb (0, 0) _ hm9 Try.underlying34 rfl (by rw [HSZB.out]; kernel_rfl) ?_)
  clear hm9
  ((refine ((by rw [← HMVB.out]; exact st_add S9.out (b := bb) xb (by have := HBB.out; omega) (show 1 < 16 by decide) (y6_place ba bb HBA.out HBB.out) (show 1 < 1000000 by decide)) : Calls Try.prog _ #[.pointer (some ⟨p, 0, none⟩), .agg cb] _ fun e w' => e = .returned (.tuple #[.int .i64 1, .int .i64 0]) ∧ ST n w1 p (y7 ba bb) C w').mono ?_); rintro e w14 ⟨rfl, s1⟩)
  have S10 := Lib.hid s1
  clear S9 s1
  go_wp2_with fail
  ((refine (st_safe S10.out (c := 0) (show 0 < 2 by decide) (show (-1 : Int) < 0 by decide) : Calls Try.prog _ #[.pointer (some ⟨p, 0, none⟩), .int .i64 0] _ fun e w' => e = .returned (.int .i64 0) ∧ ST n w1 p (y8 ba bb) C w').mono ?_); rintro e w15 ⟨rfl, s1⟩)
  have S11 := Lib.hid s1
  clear S10 s1
  go_wp2_with fail
  ((refine (st_enter_ok S11.out (c := 0) (show 0 < 2 by decide) 1 (show (y8 ba bb).find 1 = some 1 from rfl) (show (-1 : Int) < 0 by decide) (by rfl) : Calls Try.prog _ #[.pointer (some ⟨p, 0, none⟩), .int .i64 0, .int .i64 1] _ fun e w' => e = .returned (.tuple #[.string (sb bb), .int .i64 0]) ∧ ST n w1 p (y9 ba bb) C w').mono ?_); rintro e w16 ⟨rfl, s1⟩)
  have S12 := Lib.hid s1
  clear S11 s1
  go_wp2_with fail
  ((refine (st_enter_none S12.out (c := 0) (show 0 < 2 by decide) 0 (show (y9 ba bb).find 0 = none from rfl) : Calls Try.prog _ #[.pointer (some ⟨p, 0, none⟩), .int .i64 0, .int .i64 0] _ fun e w' => e = .returned (.tuple #[.string ⟨#[]⟩, .int .i64 14]) ∧ ST n w1 p (y9 ba bb) C w').mono ?_); rintro e w17 ⟨rfl, s1⟩)
  have S13 := Lib.hid s1
  clear S12 s1
  have q9 : w17.cell? ⟨m9, 2, none⟩ = some (.string (sb bb)) := (blk_cell (S13.out.at_ HC9.out) 2).trans HB2.out
  go_wp2_with fail
  ((refine (st_free S13.out : Calls Try.prog _ #[.pointer (some ⟨p, 0, none⟩)] _ fun e w' => e = .returned (.int .i64 ((16 * frees (takenB (y9 ba bb).all) 256 : Nat) : Int)) ∧ ST n w1 p (y9 ba bb) C w').mono ?_); rintro e w18 ⟨rfl, s1⟩)
  have S14 := Lib.hid s1
  clear S13 s1
  obtain ⟨f9, hf9⟩ : ∃ f9, 16 * frees (takenB (y9 ba bb).all) 256 = f9 := ⟨_, rfl⟩
  rw [hf9]
  rw [y9_free ba bb] at hf9
  have hff : decide (f3 ≤ f9) = false := by
    have h1 := HF3.out
    have h2 := HBA.out
    have h3 := HBB.out
    have h4 : lns ba.length ≤ 10 := by unfold lns; omega
    have h5 : 1 ≤ lns bb.length ∧ lns bb.length ≤ 10 := by unfold lns; omega
    have : ¬ f3 ≤ f9 := by omega
    simpa using this
  clear hf9 q9
  go_wp2_with fail
  ((refine (st_busy S14.out (c := 1) (show 1 < 2 by decide) (show (0 : Int) ≤ 0 by decide) : Calls Try.prog _ #[.pointer (some ⟨p, 0, none⟩), .int .i64 1] _ fun e w' => e = .returned (.int .i64 41) ∧ ST n w1 p (y9 ba bb) C w').mono ?_); rintro e w19 ⟨rfl, s1⟩)
  have S15 := Lib.hid s1
  clear S14 s1
  clear hff HF3
  go_wp2_with fail
  ((refine (st_leave S15.out (c := 1) (show 1 < 2 by decide) (show (0 : Int) ≤ 0 by decide) : Calls Try.prog _ #[.pointer (some ⟨p, 0, none⟩), .int .i64 1] _ fun e w' => e = .returned (.int .i64 0) ∧ ST n w1 p (y10 ba bb) C w').mono ?_); rintro e w20 ⟨rfl, s1⟩)
  have S16 := Lib.hid s1
  clear S15 s1
  go_wp2_with fail
  ((refine (st_safe S16.out (c := 1) (show 1 < 2 by decide) (show (-1 : Int) < 0 by decide) : Calls Try.prog _ #[.pointer (some ⟨p, 0, none⟩), .int .i64 1] _ fun e w' => e = .returned (.int .i64 0) ∧ ST n w1 p (y11 ba bb) C w').mono ?_); rintro e w21 ⟨rfl, s1⟩)
  have S17 := Lib.hid s1
  clear S16 s1
  go_wp2_with fail
  obtain ⟨bn, hbn⟩ : ∃ bn, bb.length = bn := ⟨_, rfl⟩
  have hbs : (sb bb).size = bn := by rw [sb_size]; exact hbn
  have hbq : ((bn : Int) + 15) / 16 = ((lns bn : Nat) : Int) := by unfold lns; omega
  have hbm : bn ≤ 60 := by have := HBB.out; omega
  obtain ⟨f11, hf11⟩ : ∃ f11, 16 * frees (takenB (y11 ba bb).all) 256 = f11 := ⟨_, rfl⟩
  have HF11 := Lib.hid hf11
  have hfe : (f11 : Int) = 4096 - 16 * ((lns bn : Nat) : Int) := by
    rw [← hf11, y11_free ba bb HBA.out HBB.out, hbn]
    have : lns bn ≤ 10 := by unfold lns; omega
    omega
  have KC : Hid (w21.drew.cell? ⟨m9, 2, none⟩ = some (.string (sb bb))) := Lib.hid ((blk_cell (S17.out.at_ HC9.out) 2).trans HB2.out)
  have K : Hid (ST n w1 p (y11 ba bb) C w21.drew) := Lib.hid (S17.out.quiet (keep_draw _ _))
  clear hf11 S17 hbn
  have hbool : ((4096 - 16 * ((lns bn : Nat) : Int)) == IntKind.i64.wrap (4096 - IntKind.i64.wrap (16 * IntKind.i64.wrap ((IntKind.i64.wrap ((bn : Int) + 15)).tdiv 16)))) = true := by
    have e1 : IntKind.i64.wrap ((bn : Int) + 15) = (bn : Int) + 15 := by rw [IntKind.wrap_i64]; omega
    have e2 : ((bn : Int) + 15).tdiv 16 = ((lns bn : Nat) : Int) := by rw [Int.tdiv_eq_ediv_of_nonneg (by omega)]; exact hbq
    have h3 : lns bn ≤ 10 := by unfold lns; omega
    have e3 : IntKind.i64.wrap ((lns bn : Nat) : Int) = ((lns bn : Nat) : Int) := by rw [IntKind.wrap_i64]; omega
    have e4 : IntKind.i64.wrap (16 * ((lns bn : Nat) : Int)) = 16 * ((lns bn : Nat) : Int) := by rw [IntKind.wrap_i64]; omega
    have e5 : IntKind.i64.wrap (4096 - 16 * ((lns bn : Nat) : Int)) = 4096 - 16 * ((lns bn : Nat) : Int) := by rw [IntKind.wrap_i64]; omega
    rw [e1, e2, e3, e4, e5]
    exact beq_self_eq_true _
  have HBL := Lib.hid hbool
  clear hbool hbq
  go_region_held3 (fun w' => w'.cell? ⟨m9, 2, none⟩ = some (.string (sb bb))) (first | exact KC.out)
    (first
      | (go_at_call 10; refine (st_free K.out).mono ?_; rintro e w22 ⟨rfl, s1⟩; rw [HF11.out]; replace K := Lib.hid s1; replace KC := Lib.hid ((blk_cell (s1.at_ HC9.out) 2).trans HB2.out); clear s1))
  all_goals rw [HBL.out]
  all_goals go_wp2_with fail
  all_goals go_ret
  all_goals exact ⟨rfl, Keep.trans H01.out (Since.mono K.out.since (by rw [← HNW.out]; exact H01.out.size))⟩
end Go.Proofs.Ytnhajhejkecihaa
