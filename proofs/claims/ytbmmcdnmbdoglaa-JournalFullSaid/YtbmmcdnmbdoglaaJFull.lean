/- JournalFull: records are appended as long as they fit. (Under way.) -/
import Derived.Test.YtbmmcdnmbdoglaaJ21
import Derived.Test.YtbmmcdnmbdoglaaKV
import Derived.Test.YtbmmcdnmbdoglaaKS
import Derived.Test.YtbmmcdnmbdoglaaKL
namespace Go.Proofs.Ytbmmcdnmbdoglaa
open Go.ChangeShapes Go.WideShapes Go.ChangeAt Go.RowKit
set_option linter.unusedVariables false

def FU (w0 : World) (n b : Nat) (w : World) (jp p C : Nat) (l : List Bytes) : Prop :=
  Since w0.heap.size w0 w ∧ GJ n (fun i => i = b) w jp p l C ∧ w.heap[b]? = some (.cells (madeCells #[.int .u8 0] 16777216) 5 (0, 0))

set_option maxHeartbeats 2000000 in
set_option maxRecDepth 100000 in
theorem full_walk (A : Option Addr) (n c : Nat) (zs : List Int) (last : Int) (w : World) (hA : CellsAt w A n (zs.map (Value.int .u32))) (hz : ∀ x ∈ zs, 0 ≤ x ∧ x ≤ 4294967295) (hl : 0 ≤ last ∧ last ≤ 4294967295) :
    Calls Try.prog 8 #[.slice A n c, .int .u32 last] w fun e w' => e = .returned (.bool true) ∧ Below w.heap.size w w' := by
  have hnl := hA.2.1
  have HA := Lib.hid hA; have HZ := Lib.hid hz
  clear hA hz
  go_enter Try.func8, Try.ntmps8
  go_wp2_with fail
  refine (sanity_any w).mono ?_
  rintro e w1 ⟨rfl, hs1⟩
  have S1 := Lib.hid hs1; clear hs1
  go_wp2_with fail
  ((with_reducible refine (new_GD w1).mono ?_); rintro e w2 ⟨rfl, hd2, hs2⟩)
  have D2 := Lib.hid hd2; have S2 := Lib.hid (Keep.trans S1.out (Since.mono hs2 S1.out.size)); have L1 := Lib.hid S1.out.size; clear hd2 hs2
  go_wp2_with fail
  have h3 := open_GD D2.out (by decide)
  ((with_reducible refine h3.mono ?_); rintro e w3 ⟨jp, A3, c3, rfl, hj3, hk3, _, _, _⟩)
  have J3 := Lib.hid hj3; have S3 := Lib.hid (Keep.trans S2.out (Since.mono hk3.since L1.out))
  clear hj3 hk3 h3 D2 S2
  have hmk : ∀ W : World, (Instr.makeSlice 43 (.int .i64 16777216) (.int .i64 16777216)).run Try.prog W = .ok (.slice (some ⟨W.heap.size, 0, none⟩) 16777216 16777216) (W.alloc (.cells (madeCells #[.int .u8 0] 16777216) 5)) :=
    fun W => run_make_row' 43 5 (.int .u8 0) 1 Try.bytes.ht Try.bytes.info rfl .i64 .i64 16777216 (by omega) (by omega) W
  go_wp2_with fail
  obtain ⟨w4, hw4⟩ : ∃ w4, w3.alloc (.cells (madeCells #[.int .u8 0] 16777216) 5) = w4 := ⟨_, rfl⟩
  have hs4 : Since w3.heap.size w3 w4 := by rw [← hw4]; exact Since.of ((Keep.refl _ _).alloc' _)
  have hb4 : w4.heap[w3.heap.size]? = some (.cells (madeCells #[.int .u8 0] 16777216) 5 (0, 0)) := by rw [← hw4]; exact heap_alloc_new _ _
  rw [hw4]
  have HI0 := Lib.hid (show FU w w1.heap.size w3.heap.size w4 jp w1.heap.size (1 + 4 * 0) [] from ⟨Keep.trans S3.out (Since.mono hs4 S3.out.size), J3.out.later hs4 (fun k hk => ⟨by have := blk_lt hb4; have : k = w3.heap.size := hk; omega, .inr (by have : k = w3.heap.size := hk; omega)⟩), hb4⟩)
  clear hs4 hb4 hw4 hmk S3 J3
  obtain ⟨b, hb⟩ : ∃ b, w3.heap.size = b := ⟨_, rfl⟩
  rw [hb] at HI0 ⊢
  clear hb
  go_loopw [10, 11, 13] (fun bv mv i wr => ∃ (k : Nat) (l : List Bytes), k ≤ 6 ∧ k ≤ n ∧ l.length ≤ k ∧ bytesOf l ≤ 16777216 ∧ bv = .int .i64 (bytesOf l : Nat) ∧ mv = .int .i64 (l.length : Nat) ∧ i = .int .i64 (k : Int) ∧ Hid (FU w w1.heap.size b wr jp w1.heap.size (1 + 4 * k) l)) (fun _ _ i _ => 7 - (intOf i).toNat)
  case atStart => exact ⟨0, [], by omega, by omega, Nat.le_refl _, by decide, rfl, rfl, rfl, HI0⟩
  case round =>
    obtain ⟨k, l, hk, hkn, hlk, hbl, rfl, rfl, rfl, HI⟩ := hrel
    obtain ⟨wo, rfl⟩ : ∃ wo : World, wo = wr := ⟨_, rfl⟩
    by_cases hlt : k < n ∧ k < 6
    · have hl1 := hlt.1
      have hl2 := hlt.2
      have b1 : decide (k < n) = true := by simpa using hl1
      have b2 : decide (k < 6) = true := by simpa using hl2
      obtain ⟨bf, of, rfl, xf0⟩ := HA.out.at_ k hl1
      have hbf := World.block_lt_of_cell? _ _ xf0
      have hfl : zs.length = n := by have := HA.out.1; simpa using this
      have hfe : (zs.map (Value.int .u32)).getD k undef = .int .u32 (zs.getD k 0) := by
        simp [List.getD_eq_getElem?_getD, List.getElem?_eq_getElem (show k < zs.length by omega)]
      rw [hfe] at xf0
      have hy2 := HZ.out _ (getD_mem (i := k) (x := (0 : Int)) (by rw [hfl]; exact hl1))
      obtain ⟨y, hy⟩ : ∃ y, zs.getD k 0 = y := ⟨_, rfl⟩
      rw [hy] at xf0 hy2
      have xf : wo.cell? ⟨bf, of + k, none⟩ = some (.int .u32 y) := (HI.out.1.cell (p := ⟨bf, of + k, none⟩) hbf (fun h' => by simp only at h' hbf; omega)).trans xf0
      obtain ⟨q, hq⟩ : ∃ q : Nat, y.tmod 8388608 = q := ⟨(y.tmod 8388608).toNat, by rw [Int.tmod_eq_emod_of_nonneg hy2.1]; omega⟩
      have hq' : y % 8388608 = q := by rw [← Int.tmod_eq_emod_of_nonneg hy2.1]; exact hq
      have hq9 : q < 8388608 := by omega
      have hcv : (convert 43 9 (.slice (some ⟨b, 0, none⟩) q 16777216)).run Try.prog wo = .ok (.string (sb (List.replicate q 0))) wo := conv_cut wo b 16777216 q HI.out.2.2 (by omega)
      clear hlt xf0 hfe hfl hy hbf
      go_wp2_with fail
      have hsz : (sb (List.replicate q 0)).size = q := by rw [sb_size, List.length_replicate]
      have h5 := append_full HI.out.2.1 (by omega) (sb (List.replicate q 0)) (by rw [hsz]; omega)
      rw [hsz] at h5
      ((with_reducible refine h5.mono ?_); rintro e w5 ⟨hk5, hor⟩)
      have HB5 := Lib.hid (show w5.heap[b]? = some (.cells (madeCells #[.int .u8 0] 16777216) 5 (0, 0)) from (hk5.block b (blk_lt HI.out.2.2) (fun h => h.2 rfl)).trans HI.out.2.2)
      have S5 := Lib.hid (Keep.trans HI.out.1 (Since.mono hk5.since L1.out))
      have HBS := Lib.hid (show bytesOf (l ++ [bs (sb (List.replicate q 0))]) = bytesOf l + q + 16 by rw [bytesOf_append]; simp only [bytesOf, bs_length, hsz]; omega)
      obtain ⟨by0, hby0⟩ : ∃ t, bytesOf l = t := ⟨_, rfl⟩
      obtain ⟨ln, hln⟩ : ∃ t, l.length = t := ⟨_, rfl⟩
      have HY := Lib.hid hby0
      have HL := Lib.hid hln
      rw [hby0] at hor hbl ⊢
      rw [hln] at hlk ⊢
      clear hk5 h5 hsz hby0 hln hcv xf
      rcases hor with ⟨hfit, rfl, hj5⟩ | ⟨hfit, rfl, hj5⟩
      · have J5 := Lib.hid hj5
        have b3 : decide (16777216 < (by0 : Int) + (q : Int) + 16 + 256) = false := by simp; omega
        clear hj5
        go_wp2_with fail
        go_roundw
        · refine ⟨k + 1, l ++ [bs (sb (List.replicate q 0))], by omega, by omega, by rw [List.length_append, HL.out]; simp; omega, by rw [HBS.out, HY.out]; omega, ?_, ?_, by go_num, Lib.hid ⟨S5.out, ?_, HB5.out⟩⟩
          · rw [HBS.out, HY.out]
            congr 1
          · rw [List.length_append, HL.out]
            congr 1
          · have e1 : 1 + 4 * k + 4 = 1 + 4 * (k + 1) := by omega
            rw [← e1]; exact J5.out
        · simp [intOf]; omega
      · have J5 := Lib.hid hj5
        have b3 : decide (16777216 < (by0 : Int) + (q : Int) + 16 + 256) = true := by simp; omega
        clear hj5
        go_wp2_with fail
        go_roundw
        · refine ⟨k + 1, l, by omega, by omega, by rw [HL.out]; omega, by rw [HY.out]; omega, by rw [HY.out], by rw [HL.out], by go_num, Lib.hid ⟨S5.out, ?_, HB5.out⟩⟩
          have e1 : 1 + 4 * k + 4 = 1 + 4 * (k + 1) := by omega
          rw [← e1]; exact J5.out
        · simp [intOf]; omega
    · have hb : (k < n ∧ ¬ k < 6 ∧ decide (k < n) = true ∧ decide (k < 6) = false) ∨ decide (k < n) = false := by
        by_cases h1 : k < n
        · exact .inl ⟨h1, by omega, by simpa using h1, by simp; omega⟩
        · exact .inr (by simpa using h1)
      obtain ⟨q, hq⟩ : ∃ q : Nat, last.tmod 16777216 = q := ⟨(last.tmod 16777216).toNat, by rw [Int.tmod_eq_emod_of_nonneg hl.1]; omega⟩
      have hq' : last % 16777216 = q := by rw [← Int.tmod_eq_emod_of_nonneg hl.1]; exact hq
      have hq9 : q < 16777216 := by omega
      have hcv : (convert 43 9 (.slice (some ⟨b, 0, none⟩) q 16777216)).run Try.prog wo = .ok (.string (sb (List.replicate q 0))) wo := conv_cut wo b 16777216 q HI.out.2.2 (by omega)
      clear hlt
      rcases hb with ⟨hl1, hl2, b1, b2⟩ | b1
      all_goals (
        go_wp2_with fail
        have hsz : (sb (List.replicate q 0)).size = q := by rw [sb_size, List.length_replicate]
        have h5 := append_full HI.out.2.1 (by omega) (sb (List.replicate q 0)) (by rw [hsz]; omega)
        rw [hsz] at h5
        ((with_reducible refine h5.mono ?_); rintro e w5 ⟨hk5, hor⟩)
        have S5 := Lib.hid (Keep.trans HI.out.1 (Since.mono hk5.since L1.out))
        obtain ⟨by0, hby0⟩ : ∃ t, bytesOf l = t := ⟨_, rfl⟩
        obtain ⟨ln, hln⟩ : ∃ t, l.length = t := ⟨_, rfl⟩
        have HY := Lib.hid hby0
        have HL := Lib.hid hln
        rw [hby0] at hor hbl ⊢
        rw [hln] at hlk ⊢
        clear hk5 h5 hsz hby0 hln hcv
        rcases hor with ⟨hfit, rfl, hj5⟩ | ⟨hfit, rfl, hj5⟩
        · have J5 := Lib.hid hj5
          have b3 : decide ((by0 : Int) + (q : Int) + 16 + 256 ≤ 16777216) = true := by simp; omega
          have LEN := Lib.hid (show (l ++ [bs (sb (List.replicate q 0))]).length = ln + 1 by rw [List.length_append, HL.out]; rfl)
          clear hj5
          go_wp2_with fail
          have h10 := crash_GJ J5.out none 0 0 [] (CellsAt.nil _ _) (by simp)
          ((with_reducible refine h10.mono ?_); rintro e w6 ⟨rfl, _, hd6, hs6⟩)
          have D6 := Lib.hid hd6; have S6 := Lib.hid hs6
          clear hd6 hs6 h10
          go_wp2_with fail
          have h11 := open_GD D6.out (by decide)
          rw [LEN.out] at h11
          ((with_reducible refine h11.mono ?_); rintro e w7 ⟨jp7, A7, c7, rfl, _, hk7, _, _, _⟩)
          have J7 := Lib.hid (J5.out.since (Keep.trans S6.out hk7.since))
          have S7 := Lib.hid (Keep.trans S5.out (Since.mono (Keep.trans S6.out hk7.since) S5.out.size))
          clear hk7 h11
          have h12 := many_GJ J7.out
          rw [LEN.out] at h12
          have HM := Lib.hid h12
          clear h12
          go_wp2_with fail
          ((with_reducible refine HM.out.mono ?_); rintro e w8 ⟨rfl, rfl⟩)
          go_wp2_with fail
          go_ret
          exact ⟨rfl, below_since S7.out rfl⟩
        · have J5 := Lib.hid hj5
          have b3 : decide ((by0 : Int) + (q : Int) + 16 + 256 ≤ 16777216) = false := by simp; omega
          have LEN := Lib.hid HL.out
          clear hj5
          go_wp2_with fail
          have h10 := crash_GJ J5.out none 0 0 [] (CellsAt.nil _ _) (by simp)
          ((with_reducible refine h10.mono ?_); rintro e w6 ⟨rfl, _, hd6, hs6⟩)
          have D6 := Lib.hid hd6; have S6 := Lib.hid hs6
          clear hd6 hs6 h10
          go_wp2_with fail
          have h11 := open_GD D6.out (by decide)
          rw [LEN.out] at h11
          ((with_reducible refine h11.mono ?_); rintro e w7 ⟨jp7, A7, c7, rfl, _, hk7, _, _, _⟩)
          have J7 := Lib.hid (J5.out.since (Keep.trans S6.out hk7.since))
          have S7 := Lib.hid (Keep.trans S5.out (Since.mono (Keep.trans S6.out hk7.since) S5.out.size))
          clear hk7 h11
          have h12 := many_GJ J7.out
          rw [LEN.out] at h12
          have HM := Lib.hid h12
          clear h12
          go_wp2_with fail
          ((with_reducible refine HM.out.mono ?_); rintro e w8 ⟨rfl, rfl⟩)
          go_wp2_with fail
          go_ret
          exact ⟨rfl, below_since S7.out rfl⟩)
set_option maxRecDepth 100000 in
theorem full_lifted (os : Os) (started : os.Started) (H : Type) (enc : TypeId × Value → H) :
    ReturnsInHanded {} Try.checked os 8 .any (Rows.journalFullSpec.pre6 enc Try.prog Try.f8 Rows.journalFullRow.domain false) (Rows.journalFullSpec.post enc Try.prog Try.f8 false true false false) := by
  refine law_lift (C := Try.checked) Try.own started (by kernel_rfl) Try.func8
    (ChangeSpec.witness6 (enc := enc) (C := Try.checked) false ⟨#[], #[.slice none 0 0, .int .u32 0], []⟩ 8 (by kernel_rfl) (by kernel_rfl) (by kernel_rfl) (by kernel_rfl))
    Try.laidOut (by kernel_rfl) rfl rfl Try.underlying4 ?_ ?_
  · intro ds hl
    match ds, hl with
    | [d1, d2], _ => exact ⟨rfl, rfl, rfl⟩
  · intro W base args ds p hval0 hA0 hlt hsz0
    have hval : ∀ (j : Nat) t v, Try.f8.params[j]? = some t → args[j]? = some v → Value.okWide Try.prog W .any base t v := hval0
    have hA : DataW.TrodAll enc Try.prog W 0 (fun _ => true) true Try.f8.params.toList args.toList ds p := hA0
    have hsz : (DataW.weightsEach Try.prog Try.f8.params.toList ds).all (· ≤ reachBytes) = true := hsz0
    rw [Try.params8] at hA hval hsz
    clear hA0 hval0 hsz0
    obtain ⟨v0, v1, d0, d1, p0, p1, rfl, rfl, rfl, h0, h1⟩ := trodAll_two hA
    have hlt0 : ∀ x ∈ p0, x.block < W.heap.size := fun x hx => hlt x (by simp [hx])
    have hlt1 : ∀ x ∈ p1, x.block < W.heap.size := fun x hx => hlt x (by simp [hx])
    obtain ⟨Aq, nq, cq, q, rfl, iq, zq, rq, wq⟩ := open_u32s_at Try.underlying53 Try.underlying23 (by kernel_rfl) (by kernel_rfl) (hval 0 53 v0 rfl rfl) h0 hlt0 (fun el sp hd => sized_slice hsz (j := 0) rfl (by simp [hd]) Try.underlying53)
    obtain ⟨e, rfl, rfl, rfl, we⟩ := open_int Try.underlying23 (hval 1 23 v1 rfl rfl) h1
    exact full_walk Aq nq cq q e W iq (fun x hx => bd_u32 (wq x hx)) (bd_u32 we)

/-- The statement. -/
theorem full_holds : Rows.JournalFullSaid :=
  OpenClaim.holds_of_wide 8 Try.f8 rfl rfl rfl rfl rfl rfl rfl ⟨rfl, rfl, rfl, rfl, rfl⟩ rfl rfl rfl rfl rfl (by kernel_rfl) Try.func8 (by kernel_rfl)
    (of_decide_eq_true (by kernel_rfl)) (by unfold Func.isWrapper; first | (rw [if_pos (by decide +kernel)]; kernel_rfl) | (rw [if_neg (by decide +kernel)]; exact ⟨rfl, rfl⟩))
    (fun os started H enc _ => full_lifted os started H enc)
#print axioms full_holds
end Go.Proofs.Ytbmmcdnmbdoglaa
