/- sanity. -/
import Derived.Test.YthhcnfbolhoeaaaD11
namespace Go.Proofs.Ythhcnfbolhoeaaa
open Go.RowKit
set_option linter.unusedVariables false

theorem read_S {n : Nat} {w : World} {p : Nat} {d : DS} (h : D n w p d) (off k : Int) (hoff : -9223372036854775808 ≤ off ∧ off ≤ 9223372036854775807) (hn : k ≤ 9223372036854775807) {l : Bytes} (hr : readL d.now off k = l) :
    Calls Try.prog 29 #[.pointer (some ⟨p, 0, none⟩), .int .i64 off, .int .i64 k] w fun e w' => e = .returned (.string (sb l)) ∧ Since w.heap.size w w' := by
  refine (read_D h off k hoff hn).mono ?_
  rintro e w' ⟨he, m, rfl⟩
  rw [hr] at he
  exact ⟨he, since_draw _ _ _⟩

set_option maxHeartbeats 4000000 in
set_option maxRecDepth 100000 in
theorem sanity_any (w : World) : Calls Try.prog 13 #[] w fun e w' => e = .returned (.bool true) ∧ Since w.heap.size w w' := by
  obtain ⟨f1, f2, f3, f4, f5, f6, f7, f8, f9, f10, f11, f12, f13⟩ := sanity_facts
  have F1 := Lib.hid f1; have F2 := Lib.hid f2; have F3 := Lib.hid f3; have F4 := Lib.hid f4; have F5 := Lib.hid f5; have F6 := Lib.hid f6; have F7 := Lib.hid f7; have F8 := Lib.hid f8; have F9 := Lib.hid f9; have F10 := Lib.hid f10; have F11 := Lib.hid f11; have F12 := Lib.hid f12; have F13 := Lib.hid f13
  clear f1 f2 f3 f4 f5 f6 f7 f8 f9 f10 f11 f12 f13
  go_enter Try.func13, Try.ntmps13
  go_wp2_with fail
  refine (new_D w).mono ?_
  rintro e w1 ⟨rfl, hd1, hs1⟩
  have D1 := Lib.hid hd1; have S1 := Lib.hid hs1; clear hd1 hs1
  go_wp2_with fail
  refine (write_D D1.out 2 ⟨#[97, 98]⟩ (by decide) (by decide) few_now.1 F1.out).mono ?_
  rintro e w2 ⟨rfl, hd2, hs2⟩
  have D2 := Lib.hid hd2; have S2 := Lib.hid (S1.out.trans hs2); clear hd2 hs2
  go_wp2_with fail
  refine (size_D D2.out).mono ?_
  rintro e wx ⟨rfl, rfl⟩
  rw [F2.out]
  go_wp2_with fail
  refine (read_S D2.out 0 9 (by decide) (by decide) F3.out).mono ?_
  rintro e w3 ⟨rfl, hs3⟩
  have D3 := Lib.hid (D2.out.since hs3 (Nat.le_refl _)); have S3 := Lib.hid (S2.out.trans (hs3.mono D2.out.le)); clear hs3
  rw [show sb [0, 0, 97, 98] = ⟨#[0, 0, 97, 98]⟩ from rfl]
  go_wp2_with fail
  refine (sync_D D3.out few_now.2.1 F4.out).mono ?_
  rintro e w4 ⟨rfl, hd4, hs4⟩
  have D4 := Lib.hid hd4; have S4 := Lib.hid (S3.out.trans hs4); clear hd4 hs4
  go_wp2_with fail
  refine (write_D D4.out 3 ⟨#[120, 121, 122]⟩ (by decide) (by decide) few_now.2.2.1 F5.out).mono ?_
  rintro e w5 ⟨rfl, hd5, hs5⟩
  have D5 := Lib.hid hd5; have S5 := Lib.hid (S4.out.trans hs5); clear hd5 hs5
  go_wp2_with fail
  refine (crash_D D5.out none 0 0 [] (CellsAt.nil _ _) (by simp) few_parts.1).mono ?_
  rintro e w6 ⟨rfl, hd6, hs6⟩
  have D6 := Lib.hid hd6; have S6 := Lib.hid (S5.out.trans (hs6.mono D5.out.le)); clear hd6 hs6
  clear D1 D2 D3 D4 S1 S2 S3 S4
  go_wp2_with fail
  refine (new_D w6).mono ?_
  rintro e w7 ⟨rfl, hd7, hs7⟩
  have D7 := Lib.hid hd7; have S7 := Lib.hid hs7; clear hd7 hs7
  go_wp2_with fail
  refine (repeated_any w7 120 70 (by decide)).mono ?_
  rintro e w8 ⟨rfl, hs8⟩
  have D8 := Lib.hid (D7.out.since hs8 (Nat.le_refl _)); have S8 := Lib.hid (S7.out.trans (hs8.mono D7.out.le)); clear hs8
  go_wp2_with fail
  refine (write_D D8.out 60 (sb (List.replicate 70 120)) (by decide) (by rw [sb_size]; decide) few_now.1 F6.out).mono ?_
  rintro e w9 ⟨rfl, hd9, hs9⟩
  have D9 := Lib.hid hd9; have S9 := Lib.hid (S8.out.trans hs9); clear hd9 hs9
  go_wp2_with fail
  have hka : Since w9.heap.size w9 (w9.alloc (.cells #[.int .i64 0, .int .i64 1] 3)) := Since.of ((Keep.refl _ w9).alloc' _)
  have D9a := D9.out.since hka (Nat.le_refl _)
  have S9a := S9.out.trans (hka.mono D9.out.le)
  have hints : IntsAt (w9.alloc (.cells #[.int .i64 0, .int .i64 1] 3)) (some ⟨w9.heap.size, 0, none⟩) 2 [0, 1] := cells_new w9 [.int .i64 0, .int .i64 1] 3
  have hcr := crash_D D9a (some ⟨w9.heap.size, 0, none⟩) 2 2 [0, 1] hints (by decide) few_parts.2
  have hsza : (w9.alloc (.cells #[.int .i64 0, .int .i64 1] 3)).heap.size = w9.heap.size + 1 := by simp
  have D9s := D9a.le
  have D6l := D6.out.le
  obtain ⟨wa, hwa⟩ : ∃ wa, w9.alloc (.cells #[.int .i64 0, .int .i64 1] 3) = wa := ⟨_, rfl⟩
  rw [hwa] at hcr hsza S9a D9s
  rw [hwa]
  have HCR := Lib.hid hcr; have SA := Lib.hid S9a; have HSZA := Lib.hid hsza
  clear hka D9a S9a hints hcr hwa hsza D9 S9 D8 S8 D7 S7
  refine HCR.out.mono ?_
  rintro e w10 ⟨rfl, hd10, hs10⟩
  have D10 := Lib.hid hd10; have S10 := Lib.hid (SA.out.trans (hs10.mono D9s)); clear hd10 hs10 HCR SA
  go_wp2_with fail
  refine (new_D w10).mono ?_
  rintro e w11 ⟨rfl, hd11, hs11⟩
  have D11 := Lib.hid hd11; have S11 := Lib.hid hs11; clear hd11 hs11
  go_wp2_with fail
  refine (fail_D D11.out 1 (by decide)).mono ?_
  rintro e w12 ⟨rfl, hd12, hs12⟩
  have D12 := Lib.hid hd12; have S12 := Lib.hid (S11.out.trans hs12); clear hd12 hs12
  go_wp2_with fail
  refine (sync_D D12.out few_now.2.2.2.1 F7.out).mono ?_
  rintro e w13 ⟨rfl, hd13, hs13⟩
  have D13 := Lib.hid hd13; have S13 := Lib.hid (S12.out.trans hs13); clear hd13 hs13
  go_wp2_with fail
  refine (write_D D13.out 0 ⟨#[97]⟩ (by decide) (by decide) few_now.2.2.2.2 F8.out).mono ?_
  rintro e w14 ⟨rfl, hd14, hs14⟩
  have D14 := Lib.hid hd14; have S14 := Lib.hid (S13.out.trans hs14); clear hd14 hs14
  go_wp2_with fail
  refine (write_D D14.out (-1) ⟨#[97]⟩ (by decide) (by decide) few_now.2.2.2.2 F9.out).mono ?_
  rintro e w15 ⟨rfl, hd15, hs15⟩
  have D15 := Lib.hid hd15; have S15 := Lib.hid (S14.out.trans hs15); clear hd15 hs15
  go_wp2_with fail
  refine (calls_D D15.out).mono ?_
  rintro e wx ⟨rfl, rfl⟩
  rw [F10.out]
  have D6z := Lib.hid ((D6.out.since S10.out (Nat.le_refl _)).since S15.out (Nat.le_refl _))
  have D10z := Lib.hid (D10.out.since S15.out (Nat.le_refl _))
  have SZ := Lib.hid (Keep.trans S6.out (Since.mono (Keep.trans S10.out (Since.mono S15.out S10.out.size)) S6.out.size))
  clear D6 D10 D11 D12 D13 D14 S10 S11 S12 S13 S14 S15 S6 S5 D5
  go_wp2_with fail
  refine (read_S D6z.out 0 9 (by decide) (by decide) F11.out).mono ?_
  rintro e w16 ⟨rfl, hs16⟩
  have D16 := Lib.hid (D10z.out.since hs16 (Nat.le_refl _)); have S16 := Lib.hid (Keep.trans SZ.out (Since.mono hs16 SZ.out.size)); clear hs16
  rw [show sb [0, 0, 97, 98] = ⟨#[0, 0, 97, 98]⟩ from rfl]
  go_wp2_with fail
  refine (size_D D16.out).mono ?_
  rintro e wx ⟨rfl, rfl⟩
  rw [show (se1.crash [0, 1]).now.length = 128 from F12.out]
  go_wp2_with fail
  refine (read_S D16.out 60 9 (by decide) (by decide) F13.out).mono ?_
  rintro e w17 ⟨rfl, hs17⟩
  have S17 := Lib.hid (Keep.trans S16.out (Since.mono hs17 S16.out.size)); clear hs17
  rw [show sb [0, 0, 0, 0, 120, 120, 120, 120, 120] = ⟨#[0, 0, 0, 0, 120, 120, 120, 120, 120]⟩ from rfl]
  go_wp2_with fail
  go_ret
  exact ⟨rfl, S17.out⟩
end Go.Proofs.Ythhcnfbolhoeaaa
