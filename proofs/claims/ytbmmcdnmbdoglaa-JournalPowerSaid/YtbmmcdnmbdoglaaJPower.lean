/- JournalPower: no power, no disk, no journal. -/
import Derived.Test.YtbmmcdnmbdoglaaJ13
import Derived.Test.YtbmmcdnmbdoglaaKM
import Derived.Test.YtbmmcdnmbdoglaaKS
import Derived.Test.YtbmmcdnmbdoglaaKL
namespace Go.Proofs.Ytbmmcdnmbdoglaa
open Go.ChangeShapes Go.WideShapes Go.ChangeAt Go.RowKit
set_option linter.unusedVariables false

set_option maxHeartbeats 1500000 in
set_option maxRecDepth 100000 in
theorem power_walk (A : Option Addr) (n c : Nat) (l : List Bytes) (w : World) (hA : StrsAt w A n l) (hlm : ∀ s ∈ l, s.length ≤ maxLen) :
    Calls Try.prog 7 #[.slice A n c] w fun e w' => e = .returned (.bool true) ∧ Below w.heap.size w w' := by
  have hnl := hA.2.1
  have HA := Lib.hid hA; have HLM := Lib.hid hlm
  have HLEN := Lib.hid hA.len
  clear hA hlm
  go_enter Try.func7, Try.ntmps7
  go_wp2_with fail
  refine (sanity_any w).mono ?_
  rintro e w1 ⟨rfl, hs1⟩
  have S1 := Lib.hid hs1; clear hs1
  go_wp2_with fail
  ((with_reducible refine (open_nil w1).mono ?_); rintro e w2 ⟨rfl, hk2⟩)
  have S2 := Lib.hid (Keep.trans S1.out (Since.of hk2)); clear hk2
  go_wp2_with fail
  obtain ⟨w3, hw3⟩ : ∃ w3, w2.alloc (.cells #[.pointer none, .int .i64 0, .int .i64 0, .int .i64 0, .bool false] 52) = w3 := ⟨_, rfl⟩
  rw [hw3]
  have z : w3.cell? ⟨w2.heap.size, 0, none⟩ = some (.pointer none) ∧ w3.cell? ⟨w2.heap.size, 1, none⟩ = some (.int .i64 0) := by
    rw [← hw3]
    constructor
    · rw [blk_cell (alloc_at rfl)]; rfl
    · rw [blk_cell (alloc_at rfl)]; rfl
  have hs3 : Since w.heap.size w w3 := by rw [← hw3]; exact Keep.trans S2.out (Since.of ((Keep.refl _ _).alloc' _))
  have Z3 := Lib.hid z; have S3 := Lib.hid hs3
  clear z hs3 hw3
  ((with_reducible refine (append_none w3 _).mono ?_); rintro e w4 ⟨rfl, hk4⟩)
  have Z4 := Lib.hid (And.intro (cell_kept hk4 Z3.out.1 id) (cell_kept hk4 Z3.out.2 id)); have S4 := Lib.hid (Keep.trans S3.out (Since.of hk4)); clear hk4 Z3 S3
  go_wp2_with fail
  ((with_reducible refine (append_zero w4 _ Z4.out.1 _).mono ?_); rintro e w5 ⟨rfl, hk5⟩)
  have Z5 := Lib.hid (cell_kept hk5 Z4.out.2 id); have S5 := Lib.hid (Keep.trans S4.out (Since.of hk5)); clear hk5 Z4 S4
  go_wp2_with fail
  ((with_reducible refine (many_none w5).mono ?_); rintro e wx ⟨rfl, rfl⟩)
  go_wp2_with fail
  ((with_reducible refine (many_zero w5 _ Z5.out).mono ?_); rintro e wx ⟨rfl, rfl⟩)
  go_wp2_with fail
  clear Z5
  ((with_reducible refine (new_GD w5).mono ?_); rintro e w6 ⟨rfl, hd6, hs6⟩)
  have D6 := Lib.hid hd6; have S6 := Lib.hid (Keep.trans S5.out (Since.mono hs6 S5.out.size)); have L5 := Lib.hid S5.out.size; clear hd6 hs6 S5
  go_wp2_with fail
  have h7 := open_GD D6.out (by decide)
  ((with_reducible refine h7.mono ?_); rintro e w7 ⟨jp, A7, c7, rfl, hj7, hk7, _, _, _⟩)
  have HI0 := Lib.hid (show GJ w5.heap.size (fun _ => False) w7 jp w5.heap.size (rcs l 0) (1 + 4 * 0) ∧ Since w.heap.size w w7 from ⟨hj7.less (fun _ h => .inl h), Keep.trans S6.out (Since.mono hk7.since L5.out)⟩)
  clear hj7 hk7 h7 D6 S6
  go_wp2_with fail
  go_loopw [13] (fun i wr => ∃ k : Nat, k ≤ 5 ∧ k ≤ n ∧ i = .int .i64 (k : Int) ∧ Hid (GJ w5.heap.size (fun _ => False) wr jp w5.heap.size (rcs l k) (1 + 4 * k) ∧ Since w.heap.size w wr)) (fun i _ => 6 - (intOf i).toNat)
  case atStart => exact ⟨0, by omega, by omega, rfl, HI0⟩
  case round =>
    obtain ⟨k, hk, hkn, rfl, HI⟩ := hrel
    obtain ⟨wo, rfl⟩ : ∃ wo : World, wo = wr := ⟨_, rfl⟩
    by_cases hlt : k < n ∧ k < 5
    · have hl1 := hlt.1
      have hl2 := hlt.2
      have b1 : decide (k < n) = true := by simpa using hl1
      have b2 : decide (k < 5) = true := by simpa using hl2
      obtain ⟨b, off, rfl, x0⟩ := (strs_since HA.out HI.out.2).at_ k hl1
      have hsz := str_size HLM.out k
      obtain ⟨t, ht⟩ : ∃ t, sb (l.getD k []) = t := ⟨_, rfl⟩
      rw [ht] at x0 hsz
      have HT := Lib.hid ht
      clear hlt ht
      go_wp2_with fail
      ((with_reducible refine (short_any wo t hsz).mono ?_); rintro e wx ⟨rfl, rfl⟩)
      go_wp2_with fail
      have hap := append_GJ HI.out.1 (by omega) (sh t) (by have := rcs_bytes l k; have := sh_size t; omega)
      rw [← HT.out, rcs_succ (by rw [HLEN.out]; exact hl1), HT.out] at hap
      clear x0
      ((with_reducible refine hap.mono ?_); rintro e w9 ⟨rfl, hj9, hk9⟩)
      have HI9 := Lib.hid (show GJ w5.heap.size (fun _ => False) w9 jp w5.heap.size (rcs l (k + 1)) (1 + 4 * (k + 1)) ∧ Since w.heap.size w w9 from ⟨hj9.more (by omega), Keep.trans HI.out.2 (Since.mono hk9.since L5.out)⟩)
      clear hj9 hk9 hap
      go_wp2_with fail
      go_roundw
      first
        | exact ⟨k + 1, by omega, by omega, by go_num, HI9⟩
        | (simp [intOf]; omega)
      all_goals (simp [intOf]; omega)
    · have hkk : min n 5 = k := by omega
      have hmin : ∀ w, (Builtin.min_ #[3, 3] 3 #[.int .i64 (n : Int), .int .i64 5]).run Try.prog w = .ok (.int .i64 (k : Int)) w := by
        intro w
        rw [run_min_int2]
        congr 2
        split <;> omega
      have hb : (k < n ∧ ¬ k < 5 ∧ decide (k < n) = true ∧ decide (k < 5) = false) ∨ decide (k < n) = false := by
        by_cases h1 : k < n
        · exact .inl ⟨h1, by omega, by simpa using h1, by simp; omega⟩
        · exact .inr (by simpa using h1)
      have hlen : (rcs l k).length = k := rcs_len (by rw [HLEN.out]; exact hkn)
      have HM := Lib.hid hmin
      clear hlt hkk hmin
      rcases hb with ⟨hl1, hl2, b1, b2⟩ | b1
      all_goals (
        go_wp2_with fail
        ((with_reducible refine (fail_GJ HI.out.1 0 (by decide)).mono ?_); rintro e w8 ⟨rfl, ⟨d, j, hj8, hg8, hc8⟩, hk8⟩)
        have J8 := Lib.hid hj8; have G8 := Lib.hid hg8; have C8 := Lib.hid hc8; have S8 := Lib.hid (Keep.trans HI.out.2 (Since.mono hk8.since L5.out))
        clear hj8 hg8 hk8 hc8
        go_wp2_with fail
        have h9 := open_off_X J8.out.dx rfl
        ((with_reducible refine h9.mono ?_); rintro e w9 ⟨rfl, hs9⟩)
        have J9 := Lib.hid (J8.out.since hs9); have S9 := Lib.hid (Keep.trans S8.out (Since.mono hs9 S8.out.size))
        clear hs9 h9 J8 S8
        go_wp2_with fail
        have h10 := fail_X J9.out (-1) (by decide)
        ((with_reducible refine h10.mono ?_); rintro e w10 ⟨rfl, hj10, hk10⟩)
        have D10 := Lib.hid (show GD w5.heap.size (fun _ => False) w10 w5.heap.size (rcs l k) (1 + 4 * k) from ⟨_, _, hj10.dx, rfl, C8.out, by show (d.fail 0).parts.length ≤ _; rw [G8.out.prt]; simp, G8.out.opn⟩)
        have S10 := Lib.hid (Keep.trans S9.out (Since.mono hk10.since L5.out))
        clear hj10 hk10 h10 J9 S9 G8 C8
        go_wp2_with fail
        have h11 := open_GD D10.out (by omega)
        rw [hlen] at h11
        ((with_reducible refine h11.mono ?_); rintro e w11 ⟨jp11, A11, c11, rfl, _, hk11, _, _, _⟩)
        have S11 := Lib.hid (Keep.trans S10.out (Since.mono hk11.since L5.out))
        clear hk11 h11 D10 S10
        have hmin := HM.out
        go_wp2_with fail
        go_ret
        exact ⟨rfl, below_since S11.out rfl⟩)
set_option maxRecDepth 100000 in
theorem power_lifted (os : Os) (started : os.Started) (H : Type) (enc : TypeId × Value → H) :
    ReturnsInHanded {} Try.checked os 7 .any (Rows.journalPowerSpec.pre6 enc Try.prog Try.f7 Rows.journalPowerRow.domain false) (Rows.journalPowerSpec.post enc Try.prog Try.f7 false true false false) := by
  refine law_lift (C := Try.checked) Try.own started (by kernel_rfl) Try.func7
    (ChangeSpec.witness6 (enc := enc) (C := Try.checked) false ⟨#[], #[.slice none 0 0], []⟩ 8 (by kernel_rfl) (by kernel_rfl) (by kernel_rfl) (by kernel_rfl))
    Try.laidOut (by kernel_rfl) rfl rfl Try.underlying4 ?_ ?_
  · intro ds hl
    match ds, hl with
    | [d1], _ => exact ⟨rfl, rfl, rfl⟩
  · intro W base args ds p hval0 hA0 hlt hsz0
    have hval : ∀ (j : Nat) t v, Try.f7.params[j]? = some t → args[j]? = some v → Value.okWide Try.prog W .any base t v := hval0
    have hA : DataW.TrodAll enc Try.prog W 0 (fun _ => true) true Try.f7.params.toList args.toList ds p := hA0
    have hsz : (DataW.weightsEach Try.prog Try.f7.params.toList ds).all (· ≤ reachBytes) = true := hsz0
    rw [Try.params7] at hA hval hsz
    clear hA0 hval0 hsz0
    obtain ⟨v0, d0, rfl, rfl, h0⟩ := trodAll_one hA
    have hlt0 : ∀ x ∈ p, x.block < W.heap.size := hlt
    obtain ⟨Al, nl, cl, l, rfl, il, zl⟩ := open_strs Try.underlying22 Try.underlying9 (by kernel_rfl) (hval 0 22 v0 rfl rfl) h0 hlt0
    exact power_walk Al nl cl l W il zl.2.2.2

/-- The statement. -/
theorem power_holds : Rows.JournalPowerSaid :=
  OpenClaim.holds_of_wide 7 Try.f7 rfl rfl rfl rfl rfl rfl rfl ⟨rfl, rfl, rfl, rfl, rfl⟩ rfl rfl rfl rfl rfl (by kernel_rfl) Try.func7 (by kernel_rfl)
    (of_decide_eq_true (by kernel_rfl)) (by unfold Func.isWrapper; first | (rw [if_pos (by decide +kernel)]; kernel_rfl) | (rw [if_neg (by decide +kernel)]; exact ⟨rfl, rfl⟩))
    (fun os started H enc _ => power_lifted os started H enc)
#print axioms power_holds
end Go.Proofs.Ytbmmcdnmbdoglaa
