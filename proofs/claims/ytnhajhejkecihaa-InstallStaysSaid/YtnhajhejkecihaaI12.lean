/- Install: sanity. -/
import Derived.Test.YtnhajhejkecihaaI11
namespace Go.Proofs.Ytnhajhejkecihaa
open Go.RowKit Go.Lib
set_option linter.unusedVariables false
set_option linter.unusedSimpArgs false

def MX.zero : MX := ⟨.int .i64 0, .int .i64 0, .slice none 0 0, .slice none 0 0, .slice none 0 0, .int .i64 0, .int .i64 0, .slice none 0 0⟩
def sanA : Bytes := [97, 98, 99, 100, 101, 102, 103, 104, 105, 106, 107, 108, 109, 110, 111, 112, 113, 114, 115, 116]
def sanB : Bytes := [49, 50, 51, 52, 53, 54, 55, 56]
def sn1 : MS := (MS.new 2).added sanA 0
def sn2 : MS := sn1.passed 0
def sn3 : MS := sn2.left 0 0
def sn4 : MS := sn3.added sanB 2
def sn5 : MS := sn4.dropped 0 (sn4.all.getD 0 ME.dflt)
def sn6 : MS := sn5.passed 1
def sn7 : MS := sn6.left 0 (-1)
def sn8 : MS := sn7.passed 0
theorem sn_place0 : (MS.new 2).place sanA.length = some 0 := by decide +kernel
theorem sn_find1 : sn1.find 0 = some 0 := by decide +kernel
theorem sn_find2 : sn2.find 0 = some 0 := by decide +kernel
theorem sn_place3 : sn3.place sanB.length = some 2 := by decide +kernel
theorem sn_find4 : sn4.find 0 = some 0 := by decide +kernel
theorem sn_free4 : frees (takenB sn4.all) 256 = 253 := by decide +kernel
theorem sn_free8 : frees (takenB sn8.all) 256 = 255 := by decide +kernel
theorem sn_live8 : liveL sn8.all = [1] := by decide +kernel
theorem sn_a : sn2.all.getD 0 ME.dflt = ⟨0, 0, sanA, false, [false, true]⟩ := rfl
set_option maxRecDepth 100000 in
set_option maxHeartbeats 4000000 in
theorem sanity_any (w : World) : Calls Try.prog 5 #[] w fun e w' => e = .returned (.bool true) ∧ Since w.heap.size w w' := by
  have HN := Lib.hid (st_new w 2 (by omega))
  go_enter Try.func5, Try.ntmps5
  go_wp2_with fail
  ((with_reducible refine (show Calls Try.prog _ #[.int .i64 2] w _ from HN.out).mono ?_); rintro e w1 ⟨p, rfl, s0⟩)
  obtain ⟨n, hn⟩ : ∃ n, w.heap.size = n := ⟨_, rfl⟩
  have HNW := Lib.hid hn
  rw [hn] at s0
  have s0' := s0.more (.cells #[.int .i64 0, .int .i64 0, .string (sb sanA), .slice none 0 0, .slice none 0 0, .slice none 0 0, .int .i64 0, .int .i64 0, .slice none 0 0] 34)
  obtain ⟨mb, hmb⟩ : ∃ mb, w1.heap.size = mb := ⟨_, rfl⟩
  rw [hmb] at s0'
  obtain ⟨C, hC⟩ : ∃ C, [(mb, Obj.cells #[.int .i64 0, .int .i64 0, .string (sb sanA), .slice none 0 0, .slice none 0 0, .slice none 0 0, .int .i64 0, .int .i64 0, .slice none 0 0] 34 (0, 0))] = C := ⟨_, rfl⟩
  have HC : Hid ((mb, Obj.cells #[.int .i64 0, .int .i64 0, .string (sb sanA), .slice none 0 0, .slice none 0 0, .slice none 0 0, .int .i64 0, .int .i64 0, .slice none 0 0] 34 (0, 0)) ∈ C) := Lib.hid (by rw [← hC]; exact List.mem_singleton.2 rfl)
  rw [hC] at s0'
  have S0 := Lib.hid s0'
  clear HN hn s0 s0' hC
  go_wp2_with fail
  ((refine (st_add S0.out (b := sanA) MX.zero (by decide) (by decide) sn_place0 (by decide) : Calls Try.prog _ #[.pointer (some ⟨p, 0, none⟩), modV sanA MX.zero] _ fun e w' => e = .returned (.tuple #[.int .i64 0, .int .i64 0]) ∧ ST n w p sn1 C w').mono ?_); rintro e w2 ⟨rfl, s1⟩)
  have S1 := Lib.hid s1
  clear S0 s1 hmb
  go_wp2_with fail
  ((refine (st_enter_stale S1.out (c := 0) (by decide) 0 sn_find1 (by decide) (by decide) : Calls Try.prog _ #[.pointer (some ⟨p, 0, none⟩), .int .i64 0, .int .i64 0] _ fun e w' => e = .returned (.tuple #[.string ⟨#[]⟩, .int .i64 40]) ∧ ST n w p sn1 C w').mono ?_); rintro e w3 ⟨rfl, s1⟩)
  have S2 := Lib.hid s1
  clear S1 s1
  go_wp2_with fail
  ((refine (st_safe S2.out (c := 0) (by decide) (by decide) : Calls Try.prog _ #[.pointer (some ⟨p, 0, none⟩), .int .i64 0] _ fun e w' => e = .returned (.int .i64 0) ∧ ST n w p sn2 C w').mono ?_); rintro e w4 ⟨rfl, s1⟩)
  have S3 := Lib.hid s1
  clear S2 s1
  go_wp2_with fail
  ((refine (st_enter_ok S3.out (c := 0) (by decide) 0 sn_find2 (by decide) (by decide) : Calls Try.prog _ #[.pointer (some ⟨p, 0, none⟩), .int .i64 0, .int .i64 0] _ fun e w' => e = .returned (.tuple #[.string (sb sanA), .int .i64 0]) ∧ ST n w p sn3 C w').mono ?_); rintro e w5 ⟨rfl, s1⟩)
  have S4 := Lib.hid s1
  clear S3 s1
  go_wp2_with fail
  ((refine (st_add S4.out (b := sanB) MX.zero (by decide) (by decide) sn_place3 (by decide) : Calls Try.prog _ #[.pointer (some ⟨p, 0, none⟩), modV sanB MX.zero] _ fun e w' => e = .returned (.tuple #[.int .i64 1, .int .i64 0]) ∧ ST n w p sn4 C w').mono ?_); rintro e w6 ⟨rfl, s1⟩)
  have S5 := Lib.hid s1
  have m2 : w6.cell? ⟨mb, 2, none⟩ = some (.string (sb sanA)) := (blk_cell (s1.at_ HC.out) 2).trans rfl
  clear S4 s1
  go_wp2_with fail
  ((refine (st_free S5.out : Calls Try.prog _ #[.pointer (some ⟨p, 0, none⟩)] _ fun e w' => e = .returned (.int .i64 ((16 * frees (takenB sn4.all) 256 : Nat) : Int)) ∧ ST n w p sn4 C w').mono ?_); rintro e w7 ⟨rfl, s1⟩)
  rw [sn_free4]
  have S6 := Lib.hid s1
  clear S5 s1 m2
  go_wp2_with fail
  ((refine (st_drop S6.out 0 sn_find4 : Calls Try.prog _ #[.pointer (some ⟨p, 0, none⟩), .int .i64 0] _ fun e w' => e = .returned (.int .i64 0) ∧ ST n w p sn5 C w').mono ?_); rintro e w8 ⟨rfl, s1⟩)
  have S7 := Lib.hid s1
  clear S6 s1
  go_wp2_with fail
  ((refine (st_safe S7.out (c := 1) (by decide) (by decide) : Calls Try.prog _ #[.pointer (some ⟨p, 0, none⟩), .int .i64 1] _ fun e w' => e = .returned (.int .i64 0) ∧ ST n w p sn6 C w').mono ?_); rintro e w9 ⟨rfl, s1⟩)
  have S8 := Lib.hid s1
  clear S7 s1
  go_wp2_with fail
  ((refine (st_busy S8.out (c := 0) (by decide) (by decide) : Calls Try.prog _ #[.pointer (some ⟨p, 0, none⟩), .int .i64 0] _ fun e w' => e = .returned (.int .i64 41) ∧ ST n w p sn6 C w').mono ?_); rintro e w10 ⟨rfl, s1⟩)
  have S9 := Lib.hid s1
  clear S8 s1
  go_wp2_with fail
  ((refine (st_leave S9.out (c := 0) (by decide) (by decide) : Calls Try.prog _ #[.pointer (some ⟨p, 0, none⟩), .int .i64 0] _ fun e w' => e = .returned (.int .i64 0) ∧ ST n w p sn7 C w').mono ?_); rintro e w11 ⟨rfl, s1⟩)
  have S10 := Lib.hid s1
  clear S9 s1
  go_wp2_with fail
  ((refine (st_safe S10.out (c := 0) (by decide) (by decide) : Calls Try.prog _ #[.pointer (some ⟨p, 0, none⟩), .int .i64 0] _ fun e w' => e = .returned (.int .i64 0) ∧ ST n w p sn8 C w').mono ?_); rintro e w12 ⟨rfl, s1⟩)
  have S11 := Lib.hid s1
  clear S10 s1
  go_wp2_with fail
  ((refine (st_free S11.out : Calls Try.prog _ #[.pointer (some ⟨p, 0, none⟩)] _ fun e w' => e = .returned (.int .i64 ((16 * frees (takenB sn8.all) 256 : Nat) : Int)) ∧ ST n w p sn8 C w').mono ?_); rintro e w13 ⟨rfl, s1⟩)
  rw [sn_free8]
  have S12 := Lib.hid s1
  clear S11 s1
  go_wp2_with fail
  have hlv := st_live S12.out
  rw [sn_live8] at hlv
  ((refine (hlv : Calls Try.prog _ #[.pointer (some ⟨p, 0, none⟩)] _ _).mono ?_); rintro e w14 ⟨⟨A, c, rfl, hrow⟩, s1⟩)
  obtain ⟨g, cc, hgc⟩ := own_some hrow
  injection hgc with hA _ hcc
  subst hA hcc
  have q1 : w14.cell? ⟨g, 0, none⟩ = some (.int .i64 1) := by rw [hrow.cellAt 0 (by simp)]; rfl
  have S13 := Lib.hid s1
  have Q1 := Lib.hid q1
  clear S12 s1 hlv hrow q1
  go_wp2_with fail
  have ka := (Keep.refl (fun _ => False) w14).alloc' (.cells #[.int .i64 1] 3)
  have hio := ints_one_any (w := w14.alloc (.cells #[.int .i64 1] 3)) (g := g) (g2 := w14.heap.size) (c := c) (c2 := 1) (v := 1) (cell_kept ka Q1.out id) ((blk_cell (heap_alloc_new _ _) 0).trans rfl)
  have KA := Lib.hid ka
  have HIO := Lib.hid hio
  clear ka hio Q1
  ((with_reducible refine HIO.out.mono ?_); rintro e w15 ⟨rfl, hk⟩)
  have HF := Lib.hid (S13.out.later (Keep.trans (Since.of KA.out) (Keep.mono hk (fun i hi => by have := KA.out.size; omega))))
  clear HIO KA S13 hk
  go_wp2_with fail
  go_ret
  refine ⟨rfl, ?_⟩
  have := HF.out.since
  rw [← HNW.out] at this
  exact this
end Go.Proofs.Ytnhajhejkecihaa
