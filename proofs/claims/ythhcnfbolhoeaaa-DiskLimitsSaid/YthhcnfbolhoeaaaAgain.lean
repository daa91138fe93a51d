/- DiskAgain. -/
import Derived.Test.YthhcnfbolhoeaaaPlays
import Derived.Test.YthhcnfbolhoeaaaKM
namespace Go.Proofs.Ythhcnfbolhoeaaa
open Go.ChangeShapes Go.WideShapes Go.ChangeAt Go.RowKit
set_option linter.unusedVariables false

theorem ints_go {n k : Nat} {w w' : World} {A : Option Addr} {q : List Int} (h : IntsAt w A k q) (hs : Since n w w') (hn : w.heap.size ≤ n) : IntsAt w' A k q := by
  refine ⟨h.1, h.2.1, fun h0 => ?_⟩
  obtain ⟨b, off, e, hl, hc⟩ := h.2.2 h0
  exact ⟨b, off, e, Nat.lt_of_lt_of_le hl hs.size, fun j hj => (hs.cell (p := ⟨b, off + j, none⟩) hl (fun h' => by simp only at h'; omega)).trans (hc j hj)⟩
theorem Desk.d {n : Nat} {w : World} {q : Nat} {r : Rep} {ρ : RRep} {d : DS} (h : Desk n w q r ρ d) : D n w r.p d := ⟨r, rfl, h.disk, h.low.2.1⟩
theorem crash_now (d : DS) (a b : List Int) : ((d.crash a).crash b).now = (d.crash a).now := rfl

set_option maxHeartbeats 1500000 in
set_option maxRecDepth 100000 in
theorem again_walk (A : Option Addr) (n c : Nat) (l : List Act') (A1 : Option Addr) (n1 c1 : Nat) (a1 : List Int) (A2 : Option Addr) (n2 c2 : Nat) (a2 : List Int) (w : World) (hA : ActsAt w A n l)
    (h1 : IntsAt w A1 n1 a1) (h2 : IntsAt w A2 n2 a2) (w1 : ∀ x ∈ a1, -9223372036854775808 ≤ x ∧ x ≤ 9223372036854775807) (w2 : ∀ x ∈ a2, -9223372036854775808 ≤ x ∧ x ≤ 9223372036854775807) :
    Calls Try.prog 9 #[.slice A n c, .slice A1 n1 c1, .slice A2 n2 c2] w fun e w' => e = .returned (.bool true) ∧ Below w.heap.size w w' := by
  have hnl := hA.2.1
  have HA := Lib.hid hA
  have H1 := Lib.hid h1
  have H2 := Lib.hid h2
  have W1 := Lib.hid w1
  have W2 := Lib.hid w2
  clear hA h1 h2 w1 w2
  go_enter Try.func9, Try.ntmps9
  go_wp2_with fail
  refine (sanity_any w).mono ?_
  rintro e w1 ⟨rfl, hs1⟩
  have S1 := Lib.hid hs1; clear hs1
  go_wp2_with fail
  refine (new_D w1).mono ?_
  rintro e w2 ⟨rfl, hd2, hs2⟩
  have D2 := Lib.hid hd2; have S2 := Lib.hid hs2; clear hd2 hs2
  go_wp2_with fail
  refine (new_ref w2).mono ?_
  rintro e w3 ⟨rfl, hw3⟩
  have hdk := desk_new D2.out S2.out hw3
  clear hw3
  go_wp2_with fail
  have HI0 := Lib.hid (show DK w1.heap.size _ w3.heap.size DS.new ∧ DS.new.few (200 * 0) ∧ Since w.heap.size w _ from ⟨hdk.1, new_few, Keep.trans S1.out (Since.mono hdk.2 S1.out.size)⟩)
  clear hdk D2 S2
  go_loopw [9] (fun i wr => ∃ k : Nat, k ≤ 15 ∧ i = .int .i64 (k : Int) ∧ ∃ d : DS, Hid (DK w1.heap.size wr w3.heap.size d ∧ d.few (200 * k) ∧ Since w.heap.size w wr)) (fun i _ => 16 - (intOf i).toNat)
  case atStart => exact ⟨0, by omega, rfl, _, HI0⟩
  case round =>
    obtain ⟨k, hk, rfl, d, HI⟩ := hrel
    obtain ⟨wo, rfl⟩ : ∃ wo : World, wo = wr := ⟨_, rfl⟩
    by_cases hlt : k < n ∧ k < 15
    · obtain ⟨b, off, rfl, a, hae, ha, x0, x1, x2, x3⟩ := (HA.out.since HI.out.2.2 (Nat.le_refl _)).at_ k hlt.1
      clear hae
      have hl1 := hlt.1
      have hl2 := hlt.2
      have b1 : decide (k < n) = true := by simpa using hl1
      have b2 : decide (k < 15) = true := by simpa using hl2
      have hf := HI.out.2.1
      have HC := Lib.hid (do_any HI.out.1 (hf.mono (by omega)) a ha)
      have HF := Lib.hid (act_few hf a)
      clear hlt hf
      go_wp2_with fail
      ((with_reducible refine HC.out.mono ?_); rintro e w5 ⟨rfl, hd5, hs5⟩)
      have HD := Lib.hid hd5
      have S5 := Lib.hid (Keep.trans HI.out.2.2 (Since.mono hs5 S1.out.size))
      clear hd5 hs5 x0 x1 x2 x3
      go_wp2_with fail
      all_goals go_roundw
      all_goals first
        | exact ⟨k + 1, by omega, by go_num, _, Lib.hid ⟨HD.out, HF.out.mono (by omega), S5.out⟩⟩
        | (simp [intOf]; omega)
    · have hcase : (k < n ∧ ¬ k < 15 ∧ decide (k < n) = true ∧ decide (k < 15) = false) ∨ (¬ k < n ∧ decide (k < n) = false) := by
        by_cases hl1 : k < n
        · exact .inl ⟨hl1, by omega, by simpa using hl1, by simp; omega⟩
        · exact .inr ⟨hl1, by simpa using hl1⟩
      obtain ⟨hdk, hfw, hsw⟩ := HI.out
      obtain ⟨r, ρ, hd⟩ := hdk
      have kc0 := hd.cells.1
      have D5 := Lib.hid hd.d
      have S5 := Lib.hid hsw
      have hsz := hd.d.le
      have hp1 : d.parts.length ≤ 1000000000 := by have := hfw.2; omega
      have hc6 := crash_D hd.d A1 n1 c1 a1 (ints_go H1.out hsw (Nat.le_refl _)) W1.out hp1
      have HC6 := Lib.hid hc6
      have HN := Lib.hid (crash_now d a1 a2)
      have HN0 := Lib.hid (show ((d.crash a1).crash a2).calls = 0 from rfl)
      clear hlt hd hfw hsw hc6
      rcases hcase with ⟨hl1, hl2, b1, b2⟩ | ⟨hl1, b1⟩
      all_goals (
        go_wp2_with fail
        ((with_reducible refine HC6.out.mono ?_); rintro e w6 ⟨rfl, hd6, hs6⟩)
        have D6 := Lib.hid hd6
        have S6 := Lib.hid (Keep.trans S5.out (Since.mono hs6 S5.out.size))
        clear hd6 hs6 kc0
        go_wp2_with fail
        refine (crash_D D6.out A2 n2 c2 a2 (ints_go H2.out S6.out (Nat.le_refl _)) W2.out (by show (0 : Nat) ≤ _; omega)).mono ?_
        rintro e w7 ⟨rfl, hd7, hs7⟩
        have D7 := Lib.hid hd7
        have D67 := Lib.hid (D6.out.since hs7 (Nat.le_refl _))
        have S7 := Lib.hid (Keep.trans S6.out (Since.mono hs7 S6.out.size))
        clear hd7 hs7
        go_wp2_with fail
        refine (size_D D7.out).mono ?_
        rintro e wx ⟨rfl, rfl⟩
        rw [HN.out]
        go_wp2_with fail
        refine (size_D D67.out).mono ?_
        rintro e wx ⟨rfl, rfl⟩
        go_wp2_with fail
        refine (read_S D7.out 0 33554432 (by decide) (by decide) rfl).mono ?_
        rintro e w8 ⟨rfl, hs8⟩
        rw [HN.out]
        have D8 := Lib.hid (D7.out.since hs8 (Nat.le_refl _))
        have D68 := Lib.hid (D67.out.since hs8 (Nat.le_refl _))
        have S8 := Lib.hid (Keep.trans S7.out (Since.mono hs8 S7.out.size))
        clear hs8
        go_wp2_with fail
        refine (read_S D68.out 0 33554432 (by decide) (by decide) rfl).mono ?_
        rintro e w9 ⟨rfl, hs9⟩
        have D9 := Lib.hid (D8.out.since hs9 (Nat.le_refl _))
        have S9 := Lib.hid (Keep.trans S8.out (Since.mono hs9 S8.out.size))
        clear hs9
        go_wp2_with fail
        refine (calls_D D9.out).mono ?_
        rintro e wx ⟨rfl, rfl⟩
        rw [HN0.out]
        go_wp2_with fail
        go_ret
        exact ⟨rfl, below_since S9.out rfl⟩)
set_option maxRecDepth 100000 in
theorem again_lifted (os : Os) (started : os.Started) (H : Type) (enc : TypeId × Value → H) :
    ReturnsInHanded {} Try.checked os 9 .any (Rows.diskAgainSpec.pre6 enc Try.prog Try.f9 Rows.diskAgainRow.domain false) (Rows.diskAgainSpec.post enc Try.prog Try.f9 false true false false) := by
  refine law_lift (C := Try.checked) Try.own started (by kernel_rfl) Try.func9
    (ChangeSpec.witness6 (enc := enc) (C := Try.checked) false ⟨#[], #[.slice none 0 0, .slice none 0 0, .slice none 0 0], []⟩ 8 (by kernel_rfl) (by kernel_rfl) (by kernel_rfl) (by kernel_rfl))
    Try.laidOut (by kernel_rfl) rfl rfl Try.underlying4 ?_ ?_
  · intro ds hl
    match ds, hl with
    | [d1, d2, d3], _ => exact ⟨rfl, rfl, rfl⟩
  · intro W base args ds p hval0 hA0 hlt hsz0
    have hval : ∀ (j : Nat) t v, Try.f9.params[j]? = some t → args[j]? = some v → Value.okWide Try.prog W .any base t v := hval0
    have hA : DataW.TrodAll enc Try.prog W 0 (fun _ => true) true Try.f9.params.toList args.toList ds p := hA0
    have hsz : (DataW.weightsEach Try.prog Try.f9.params.toList ds).all (· ≤ reachBytes) = true := hsz0
    rw [Try.params9] at hA hval hsz
    clear hA0 hval0 hsz0
    obtain ⟨v0, v1, v2, d0, d1, d2, p0, p1, p2, rfl, rfl, rfl, h0, h1, h2⟩ := trodAll_three hA
    have hlt0 : ∀ x ∈ p0, x.block < W.heap.size := fun x hx => hlt x (by simp [hx])
    have hlt1 : ∀ x ∈ p1, x.block < W.heap.size := fun x hx => hlt x (by simp [hx])
    have hlt2 : ∀ x ∈ p2, x.block < W.heap.size := fun x hx => hlt x (by simp [hx])
    obtain ⟨Al, nl, cl, l, rfl, il⟩ := open_acts Try.underlying22 Try.underlying33 (by kernel_rfl) (by kernel_rfl) Try.underlying3 Try.underlying3 Try.underlying3 Try.underlying9 (hval 0 22 v0 rfl rfl) h0 hlt0
    obtain ⟨Aqa, nqa, cqa, qa, rfl, iqa, zqa, rqa, wqa⟩ := open_ints_at Try.underlying36 Try.underlying3 (by kernel_rfl) (by kernel_rfl) (hval 1 36 v1 rfl rfl) h1 hlt1 (fun el sp hd => sized_slice hsz (j := 1) rfl (by simp [hd]) Try.underlying36)
    obtain ⟨Aqb, nqb, cqb, qb, rfl, iqb, zqb, rqb, wqb⟩ := open_ints_at Try.underlying36 Try.underlying3 (by kernel_rfl) (by kernel_rfl) (hval 2 36 v2 rfl rfl) h2 hlt2 (fun el sp hd => sized_slice hsz (j := 2) rfl (by simp [hd]) Try.underlying36)
    exact again_walk Al nl cl l Aqa nqa cqa qa Aqb nqb cqb qb W il iqa iqb (fun x hx => bd_i64 (wqa x hx)) (fun x hx => bd_i64 (wqb x hx))

/-- The statement. -/
theorem again_holds : Rows.DiskAgainSaid :=
  OpenClaim.holds_of_wide 9 Try.f9 rfl rfl rfl rfl rfl rfl rfl ⟨rfl, rfl, rfl, rfl, rfl⟩ rfl rfl rfl rfl rfl (by kernel_rfl) Try.func9 (by kernel_rfl)
    (of_decide_eq_true (by kernel_rfl)) (by unfold Func.isWrapper; first | (rw [if_pos (by decide +kernel)]; kernel_rfl) | (rw [if_neg (by decide +kernel)]; exact ⟨rfl, rfl⟩))
    (fun os started H enc _ => again_lifted os started H enc)
#print axioms again_holds
end Go.Proofs.Ythhcnfbolhoeaaa
