/- JournalApart: two journals on two disks, one of them a crash of the other. -/
import Derived.Test.YtbmmcdnmbdoglaaJ13
import Derived.Test.YtbmmcdnmbdoglaaKM
import Derived.Test.YtbmmcdnmbdoglaaKS
import Derived.Test.YtbmmcdnmbdoglaaKL
namespace Go.Proofs.Ytbmmcdnmbdoglaa
open Go.ChangeShapes Go.WideShapes Go.ChangeAt Go.RowKit
set_option linter.unusedVariables false

theorem StrsAt.front {w : World} {A : Option Addr} {n k : Nat} {l m : List Bytes} (h : StrsAt w A n (l ++ m)) (hk : l.length = k) : StrsAt w A k l := by
  have hln := h.len
  refine ⟨by simp [strs, hk], by have := h.2.1; have : n = l.length + m.length := by rw [← hln, List.length_append]
                                 omega, fun h0 => ?_⟩
  have hn : k ≤ n := by rw [← hln, List.length_append]; omega
  obtain ⟨b, off, e, hl, hc⟩ := h.2.2 (by omega)
  refine ⟨b, off, e, hl, fun j hj => ?_⟩
  rw [hc j (by omega)]
  unfold strs
  rw [List.map_append, List.getElem?_append_left (by rw [List.length_map]; omega)]

set_option maxHeartbeats 1500000 in
set_option maxRecDepth 100000 in
theorem apart_walk (A : Option Addr) (n c : Nat) (l : List Bytes) (Am : Option Addr) (nm cm : Nat) (m : List Bytes) (w : World) (hA : StrsAt w A n l) (hAm : StrsAt w Am nm m) (hlm : ∀ s ∈ l, s.length ≤ maxLen) (hmm : ∀ s ∈ m, s.length ≤ maxLen) :
    Calls Try.prog 9 #[.slice A n c, .slice Am nm cm] w fun e w' => e = .returned (.bool true) ∧ Below w.heap.size w w' := by
  have hnl := hA.2.1
  have hnm := hAm.2.1
  have HA := Lib.hid hA; have HLM := Lib.hid hlm; have HB := Lib.hid hAm; have HMM := Lib.hid hmm
  have HLEN := Lib.hid hA.len; have HLENB := Lib.hid hAm.len
  clear hA hlm hAm hmm
  go_enter Try.func9, Try.ntmps9
  go_wp2_with fail
  refine (sanity_any w).mono ?_
  rintro e w1 ⟨rfl, hs1⟩
  have S1 := Lib.hid hs1; clear hs1
  go_wp2_with fail
  ((with_reducible refine (new_GD w1).mono ?_); rintro e w2 ⟨rfl, hd2, hs2⟩)
  have D2 := Lib.hid hd2; have S2 := Lib.hid (Keep.trans S1.out (Since.mono hs2 S1.out.size)); have L1 := Lib.hid S1.out.size; clear hd2 hs2
  go_wp2_with fail
  have h3 := open_GD D2.out (by decide)
  ((with_reducible refine h3.mono ?_); rintro e w3 ⟨jp, A3, c3, rfl, hj3, hk3, _, _, _⟩)
  have HI0 := Lib.hid (show GJ w1.heap.size (fun _ => False) w3 jp w1.heap.size (rcs l 0) (1 + 4 * 0) ∧ Since w.heap.size w w3 from ⟨hj3.less (fun _ h => .inl h), Keep.trans S2.out (Since.mono hk3.since L1.out)⟩)
  clear hj3 hk3 h3 D2 S2
  go_wp2_with fail
  go_loopw [10] (fun i wr => ∃ k : Nat, k ≤ 10 ∧ k ≤ n ∧ i = .int .i64 (k : Int) ∧ Hid (GJ w1.heap.size (fun _ => False) wr jp w1.heap.size (rcs l k) (1 + 4 * k) ∧ Since w.heap.size w wr)) (fun i _ => 11 - (intOf i).toNat)
  case atStart => exact ⟨0, by omega, by omega, rfl, HI0⟩
  case round =>
    obtain ⟨k, hk, hkn, rfl, HI⟩ := hrel
    obtain ⟨w4, rfl⟩ : ∃ wo : World, wo = wr := ⟨_, rfl⟩
    by_cases hlt : k < n ∧ k < 10
    · have hl1 := hlt.1
      have hl2 := hlt.2
      have b1 : decide (k < n) = true := by simpa using hl1
      have b2 : decide (k < 10) = true := by simpa using hl2
      obtain ⟨b, off, rfl, x0⟩ := (strs_since HA.out HI.out.2).at_ k hl1
      have hsz := str_size HLM.out k
      obtain ⟨t, ht⟩ : ∃ t, sb (l.getD k []) = t := ⟨_, rfl⟩
      rw [ht] at x0 hsz
      have HT := Lib.hid ht
      clear hlt ht
      go_wp2_with fail
      ((with_reducible refine (short_any w4 t hsz).mono ?_); rintro e wx ⟨rfl, rfl⟩)
      go_wp2_with fail
      have hap := append_GJ HI.out.1 (by omega) (sh t) (by have := rcs_bytes l k; have := sh_size t; omega)
      rw [← HT.out, rcs_succ (by rw [HLEN.out]; exact hl1), HT.out] at hap
      clear x0
      ((with_reducible refine hap.mono ?_); rintro e w9 ⟨rfl, hj9, hk9⟩)
      have HI9 := Lib.hid (show GJ w1.heap.size (fun _ => False) w9 jp w1.heap.size (rcs l (k + 1)) (1 + 4 * (k + 1)) ∧ Since w.heap.size w w9 from ⟨hj9.more (by omega), Keep.trans HI.out.2 (Since.mono hk9.since L1.out)⟩)
      clear hj9 hk9 hap
      go_wp2_with fail
      go_roundw
      first
        | exact ⟨k + 1, by omega, by omega, by go_num, HI9⟩
        | (simp [intOf]; omega)
      all_goals (simp [intOf]; omega)
    · have hkk : min n 10 = k := by omega
      have hmin : ∀ w, (Builtin.min_ #[3, 3] 3 #[.int .i64 (n : Int), .int .i64 10]).run Try.prog w = .ok (.int .i64 (k : Int)) w := by
        intro w
        rw [run_min_int2]
        congr 2
        split <;> omega
      have hb : (k < n ∧ ¬ k < 10 ∧ decide (k < n) = true ∧ decide (k < 10) = false) ∨ decide (k < n) = false := by
        by_cases h1 : k < n
        · exact .inl ⟨h1, by omega, by simpa using h1, by simp; omega⟩
        · exact .inr (by simpa using h1)
      have hlen : (rcs l k).length = k := rcs_len (by rw [HLEN.out]; exact hkn)
      have hby := rcs_bytes l k
      obtain ⟨q, hq⟩ : ∃ q, rcs l k = q := ⟨_, rfl⟩
      rw [hq] at hlen hby
      have HM := Lib.hid hmin; have HQ := Lib.hid hq; have HLQ := Lib.hid hlen; have HBQ := Lib.hid hby
      clear hlt hkk hmin hq hby
      rcases hb with ⟨hl1, hl2, b1, b2⟩ | b1
      all_goals (
        go_wp2_with fail
        have h5 := crash_GJ HI.out.1 none 0 0 [] (CellsAt.nil _ _) (by simp)
        ((with_reducible refine h5.mono ?_); rintro e w5 ⟨rfl, _, hd5, hs5⟩)
        rw [HQ.out] at hd5
        have D5 := Lib.hid hd5; have S5 := Lib.hid hs5
        clear hd5 hs5 h5
        go_wp2_with fail
        have h6 := open_GD D5.out (by decide)
        rw [HLQ.out] at h6
        ((with_reducible refine h6.mono ?_); rintro e w6 ⟨kp, A6, c6, rfl, hj6, hk6, _, _, _⟩)
        have HJ0 := Lib.hid (show GJ w4.heap.size (fun _ => False) w6 kp w4.heap.size (q ++ rcs m 0) (1 + 4 * 0) ∧ Since w4.heap.size w4 w6 from ⟨by rw [rcs_zero, List.append_nil]; exact hj6.less (fun _ h => .inl h), Keep.trans S5.out hk6.since⟩)
        clear hj6 hk6 h6 D5 S5
        have hmin := HM.out
        go_wp2_with fail
        clear hmin
        go_loopw [15] (fun i wr => ∃ k2 : Nat, k2 ≤ 10 ∧ k2 ≤ nm ∧ i = .int .i64 (k2 : Int) ∧ Hid (GJ w4.heap.size (fun _ => False) wr kp w4.heap.size (q ++ rcs m k2) (1 + 4 * k2) ∧ Since w4.heap.size w4 wr)) (fun i _ => 11 - (intOf i).toNat)
        case atStart => exact ⟨0, by omega, by omega, rfl, HJ0⟩
        case round =>
          obtain ⟨k2, hk2, hkn2, rfl, HJ⟩ := hrel
          obtain ⟨w7, rfl⟩ : ∃ wo : World, wo = wr := ⟨_, rfl⟩
          have S7 := Lib.hid (Keep.trans HI.out.2 (Since.mono HJ.out.2 HI.out.2.size))
          by_cases hlt : k2 < nm ∧ k2 < 10
          · have hl1 := hlt.1
            have hl2 := hlt.2
            have b1 : decide (k2 < nm) = true := by simpa using hl1
            have b2 : decide (k2 < 10) = true := by simpa using hl2
            obtain ⟨b, off, rfl, x0⟩ := (strs_since HB.out S7.out).at_ k2 hl1
            have hsz := str_size HMM.out k2
            obtain ⟨t, ht⟩ : ∃ t, sb (m.getD k2 []) = t := ⟨_, rfl⟩
            rw [ht] at x0 hsz
            have HT := Lib.hid ht
            clear hlt ht
            go_wp2_with fail
            ((with_reducible refine (short_any w7 t hsz).mono ?_); rintro e wx ⟨rfl, rfl⟩)
            go_wp2_with fail
            have hap := append_GJ HJ.out.1 (by omega) (sh t) (by have := rcs_bytes m k2; have := sh_size t; have := HBQ.out; rw [bytesOf_append]; omega)
            rw [← HT.out, List.append_assoc, rcs_succ (by rw [HLENB.out]; exact hl1), HT.out] at hap
            clear x0
            ((with_reducible refine hap.mono ?_); rintro e w9 ⟨rfl, hj9, hk9⟩)
            have HJ9 := Lib.hid (show GJ w4.heap.size (fun _ => False) w9 kp w4.heap.size (q ++ rcs m (k2 + 1)) (1 + 4 * (k2 + 1)) ∧ Since w4.heap.size w4 w9 from ⟨hj9.more (by omega), Keep.trans HJ.out.2 hk9.since⟩)
            clear hj9 hk9 hap
            go_wp2_with fail
            go_roundw
            first
              | exact ⟨k2 + 1, by omega, by omega, by go_num, HJ9⟩
              | (simp [intOf]; omega)
            all_goals (simp [intOf]; omega)
          · have hmin2 : ∀ w, (Builtin.min_ #[3, 3] 3 #[.int .i64 (nm : Int), .int .i64 10]).run Try.prog w = .ok (.int .i64 (k2 : Int)) w := by
              intro w
              rw [run_min_int2]
              congr 2
              split <;> omega
            have hmin3 : ∀ w, (Builtin.min_ #[3, 3] 3 #[.int .i64 (k : Int), .int .i64 ((k + k2 : Nat) : Int)]).run Try.prog w = .ok (.int .i64 (k : Int)) w := by
              intro w
              rw [run_min_int2]
              congr 2
              split <;> omega
            have hb2 : (k2 < nm ∧ ¬ k2 < 10 ∧ decide (k2 < nm) = true ∧ decide (k2 < 10) = false) ∨ decide (k2 < nm) = false := by
              by_cases h1 : k2 < nm
              · exact .inl ⟨h1, by omega, by simpa using h1, by simp; omega⟩
              · exact .inr (by simpa using h1)
            have hlen2 : (q ++ rcs m k2).length = k + k2 := by rw [List.length_append, HLQ.out, rcs_len (by rw [HLENB.out]; exact hkn2)]
            have HM2 := Lib.hid (And.intro hmin2 hmin3); have HL2 := Lib.hid hlen2
            have hJd := HI.out.1.later (Y := fun i => w4.heap.size ≤ i ∧ i < w7.heap.size) HJ.out.2 (fun i hi => ⟨hi.2, .inr hi.1⟩)
            rw [HQ.out] at hJd
            have JD7 := Lib.hid hJd
            clear hlt hmin2 hmin3 hlen2 hJd
            rcases hb2 with ⟨g1, g2, g3, g4⟩ | g3
            all_goals (
              go_wp2_with fail
              have h8 := open_GD JD7.out.gd (by omega)
              rw [HLQ.out] at h8
              ((with_reducible refine h8.mono ?_); rintro e w8 ⟨jp8, A8, c8, rfl, hj8, hk8, hA8, hA8b, _, hc8⟩)
              have JK8 := Lib.hid (HJ.out.1.kept' (Z := fun i => ∃ a, A8 = some a ∧ i = a.block) hk8 (fun i h1 h2 => ⟨h1, h2⟩) (fun i hi => ⟨hj8.lt i (.inr hi), by obtain ⟨a, ha, rfl⟩ := hi; exact .inr (hA8b a ha)⟩))
              have A8s := Lib.hid hA8
              have S8 := Lib.hid (Keep.trans S7.out (Since.mono hk8.since L1.out))
              clear hj8 hk8 hA8 hA8b h8 JD7
              go_wp2_with fail
              have h9 := open_GD JK8.out.gd (by omega)
              rw [HL2.out] at h9
              ((with_reducible refine h9.mono ?_); rintro e w9 ⟨jp9, A9, c9, rfl, hj9, hk9, hA9, hA9b, hno, hc9⟩)
              have B8 := Lib.hid (hk9.strs A8s.out (fun a ha => .inr ⟨a, ha, rfl⟩))
              have B9 := Lib.hid (StrsAt.front hA9 HLQ.out)
              have S9 := Lib.hid (Keep.trans S8.out (Since.mono hk9.since HI.out.2.size))
              have hsm := same_any B8.out B9.out true (by simp) (ca := c8) (cb := c9)
              have HS := Lib.hid hsm
              have NO := Lib.hid hno
              clear hj9 hk9 hA9 hA9b h9 JK8 A8s S8 hsm hno
              have hmin := HM.out
              have hmin2 := HM2.out.1
              have hmin3 := HM2.out.2
              have t1 : IntKind.i64.wrap ((k : Int) + (k2 : Int)) = (k : Int) + (k2 : Int) := IntWalk.i64_in _ (by omega)
              have hmn : (min (k : Int) ((k : Int) + (k2 : Int))).toNat = k := by omega
              cases A9 with
              | none =>
                have hno := NO.out rfl
                obtain ⟨hno1, rfl⟩ := hno
                obtain rfl : k = 0 := by omega
                obtain rfl : k2 = 0 := by omega
                go_wp2_with fail
                ((with_reducible refine HS.out.mono ?_); rintro e w10 ⟨rfl, i, hi⟩)
                have S10 := Lib.hid (show Since w.heap.size w w10 by rw [hi]; exact Keep.trans S9.out (since_draw _ _ _))
                clear hi
                go_wp2_with fail
                go_ret
                exact ⟨rfl, below_since S10.out rfl⟩
              | some a9 =>
                go_wp2_with fail
                ((with_reducible refine HS.out.mono ?_); rintro e w10 ⟨rfl, i, hi⟩)
                have S10 := Lib.hid (show Since w.heap.size w w10 by rw [hi]; exact Keep.trans S9.out (since_draw _ _ _))
                clear hi
                go_wp2_with fail
                go_ret
                exact ⟨rfl, below_since S10.out rfl⟩))
set_option maxRecDepth 100000 in
theorem apart_lifted (os : Os) (started : os.Started) (H : Type) (enc : TypeId × Value → H) :
    ReturnsInHanded {} Try.checked os 9 .any (Rows.journalApartSpec.pre6 enc Try.prog Try.f9 Rows.journalApartRow.domain false) (Rows.journalApartSpec.post enc Try.prog Try.f9 false true false false) := by
  refine law_lift (C := Try.checked) Try.own started (by kernel_rfl) Try.func9
    (ChangeSpec.witness6 (enc := enc) (C := Try.checked) false ⟨#[], #[.slice none 0 0, .slice none 0 0], []⟩ 8 (by kernel_rfl) (by kernel_rfl) (by kernel_rfl) (by kernel_rfl))
    Try.laidOut (by kernel_rfl) rfl rfl Try.underlying4 ?_ ?_
  · intro ds hl
    match ds, hl with
    | [d1, d2], _ => exact ⟨rfl, rfl, rfl⟩
  · intro W base args ds p hval0 hA0 hlt hsz0
    have hval : ∀ (j : Nat) t v, Try.f9.params[j]? = some t → args[j]? = some v → Value.okWide Try.prog W .any base t v := hval0
    have hA : DataW.TrodAll enc Try.prog W 0 (fun _ => true) true Try.f9.params.toList args.toList ds p := hA0
    have hsz : (DataW.weightsEach Try.prog Try.f9.params.toList ds).all (· ≤ reachBytes) = true := hsz0
    rw [Try.params9] at hA hval hsz
    clear hA0 hval0 hsz0
    obtain ⟨v0, v1, d0, d1, p0, p1, rfl, rfl, rfl, h0, h1⟩ := trodAll_two hA
    have hlt0 : ∀ x ∈ p0, x.block < W.heap.size := fun x hx => hlt x (by simp [hx])
    have hlt1 : ∀ x ∈ p1, x.block < W.heap.size := fun x hx => hlt x (by simp [hx])
    obtain ⟨Al, nl, cl, l, rfl, il, zl⟩ := open_strs Try.underlying22 Try.underlying9 (by kernel_rfl) (hval 0 22 v0 rfl rfl) h0 hlt0
    obtain ⟨Am, nm, cm, m, rfl, im, zm⟩ := open_strs Try.underlying22 Try.underlying9 (by kernel_rfl) (hval 1 22 v1 rfl rfl) h1 hlt1
    exact apart_walk Al nl cl l Am nm cm m W il im zl.2.2.2 zm.2.2.2

/-- The statement. -/
theorem apart_holds : Rows.JournalApartSaid :=
  OpenClaim.holds_of_wide 9 Try.f9 rfl rfl rfl rfl rfl rfl rfl ⟨rfl, rfl, rfl, rfl, rfl⟩ rfl rfl rfl rfl rfl (by kernel_rfl) Try.func9 (by kernel_rfl)
    (of_decide_eq_true (by kernel_rfl)) (by unfold Func.isWrapper; first | (rw [if_pos (by decide +kernel)]; kernel_rfl) | (rw [if_neg (by decide +kernel)]; exact ⟨rfl, rfl⟩))
    (fun os started H enc _ => apart_lifted os started H enc)
#print axioms apart_holds
end Go.Proofs.Ytbmmcdnmbdoglaa
