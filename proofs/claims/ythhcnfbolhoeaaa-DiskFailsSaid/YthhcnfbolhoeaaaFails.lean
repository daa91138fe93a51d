/- DiskFails. -/
import Derived.Test.YthhcnfbolhoeaaaD12
import Derived.Test.YthhcnfbolhoeaaaKL
import Derived.Test.YthhcnfbolhoeaaaKM
namespace Go.Proofs.Ythhcnfbolhoeaaa
open Go.ChangeShapes Go.WideShapes Go.ChangeAt Go.RowKit
set_option linter.unusedVariables false

structure FInv (d : DS) (m k : Nat) : Prop where
  failing : d.failing = true
  calls : d.calls = (min k m : Nat)
  left : d.left = ((m - min k m : Nat) : Int)
  size : d.now.length ≤ min k m
  parts : d.parts.length ≤ k
theorem FInv.start (m : Nat) : FInv (DS.new.fail m) m 0 := ⟨by simp [DS.fail], by simp [DS.fail, DS.new], by simp [DS.fail], by simp [DS.fail, DS.new], by simp [DS.fail, DS.new]⟩
theorem FInv.off {d : DS} {m k : Nat} (h : FInv d m k) : d.off = decide (m ≤ k) := by
  unfold DS.off
  rw [h.failing, h.left, Bool.true_and]
  exact decide_eq_decide.2 (by omega)
theorem FInv.few {d : DS} {m k : Nat} (h : FInv d m k) (hm : k ≤ 1000) : d.few 100000000 := ⟨by rw [h.calls]; omega, by have := h.parts; omega⟩
theorem FInv.sync {d : DS} {m k : Nat} (h : FInv d m k) : ∃ d', d.doSync = (if m ≤ k then 70 else 0, d') ∧ FInv d' m (k + 1) := by
  unfold DS.doSync
  rw [h.off]
  by_cases hk : m ≤ k
  · simp only [hk, decide_true, if_true]
    exact ⟨d, rfl, h.failing, by rw [h.calls]; omega, by rw [h.left]; omega, by have := h.size; omega, by have := h.parts; omega⟩
  · simp only [hk, decide_false, if_false, Bool.false_eq_true]
    refine ⟨d.sync, rfl, h.failing, ?_, ?_, ?_, by simp [DS.sync]⟩
    · show d.calls + 1 = _
      rw [h.calls]; omega
    · show (if d.failing then d.left - 1 else d.left) = _
      rw [h.failing, h.left]; simp; omega
    · have := h.size
      show d.now.length ≤ _
      omega
theorem FInv.write {d : DS} {m k : Nat} (h : FInv d m k) (hk0 : k ≤ 1000) : ∃ d', d.doWrite (k : Int) (bs ⟨#[122]⟩) = (if m ≤ k then 70 else 0, d') ∧ FInv d' m (k + 1) := by
  have hf : fitsAt (k : Int) (bs ⟨#[122]⟩).length = true := by simp [fitsAt, bs]; omega
  unfold DS.doWrite
  rw [if_pos hf, h.off]
  by_cases hk : m ≤ k
  · simp only [hk, decide_true, if_true]
    exact ⟨d, rfl, h.failing, by rw [h.calls]; omega, by rw [h.left]; omega, by have := h.size; omega, by have := h.parts; omega⟩
  · simp only [hk, decide_false, if_false, Bool.false_eq_true]
    refine ⟨d.write (k : Int).toNat (bs ⟨#[122]⟩), rfl, h.failing, ?_, ?_, ?_, ?_⟩
    · show d.calls + 1 = _
      rw [h.calls]; omega
    · show (if d.failing then d.left - 1 else d.left) = _
      rw [h.failing, h.left]; simp; omega
    · have := h.size
      show (putL d.now _ _).length ≤ _
      rw [putL_length]
      simp [bs]
      omega
    · have := h.parts
      show (d.parts ++ pieces _ _).length ≤ _
      rw [List.length_append]
      have h2 := pieces_length 1 (k : Int).toNat (bs ⟨#[122]⟩) (by simp [bs])
      simp [bs] at h2 ⊢
      omega
theorem FInv.again {d : DS} {m k : Nat} (h : FInv d m k) (hk : m ≤ k) : ∃ d', (d.fail (-1)).doWrite 0 (bs ⟨#[97, 103, 97, 105, 110]⟩) = (0, d') ∧ d'.calls = (m + 1 : Nat) := by
  refine ⟨(d.fail (-1)).write 0 (bs ⟨#[97, 103, 97, 105, 110]⟩), rfl, ?_⟩
  show d.calls + 1 = _
  rw [h.calls]; omega

set_option maxHeartbeats 4000000 in
set_option maxRecDepth 100000 in
theorem fails_walk (n b m : Int) (hn : 0 ≤ n ∧ n ≤ 255) (hb : 0 ≤ b ∧ b ≤ 4294967295) (hm : 0 ≤ m ∧ m ≤ 255) (w : World) :
    Calls Try.prog 7 #[.int .u8 n, .int .u32 b, .int .u8 m] w fun e w' => e = .returned (.bool true) ∧ Below w.heap.size w w' := by
  obtain ⟨many, hmany⟩ : ∃ k : Nat, n.tmod 30 = k := ⟨(n.tmod 30).toNat, by rw [Int.tmod_eq_emod_of_nonneg hn.1]; omega⟩
  obtain ⟨q, hq⟩ : ∃ k : Nat, m.tmod 5 = k := ⟨(m.tmod 5).toNat, by rw [Int.tmod_eq_emod_of_nonneg hm.1]; omega⟩
  have hm30 : many < 30 := by rw [Int.tmod_eq_emod_of_nonneg hn.1] at hmany; omega
  have hq5 : q < 5 := by rw [Int.tmod_eq_emod_of_nonneg hm.1] at hq; omega
  have hmany' : n % 30 = many := by rw [← Int.tmod_eq_emod_of_nonneg hn.1]; exact hmany
  have hq' : m % 5 = q := by rw [← Int.tmod_eq_emod_of_nonneg hm.1]; exact hq
  go_enter Try.func7, Try.ntmps7
  go_wp2_with fail
  refine (sanity_any w).mono ?_
  rintro e w1 ⟨rfl, hs1⟩
  have S1 := Lib.hid hs1; clear hs1
  go_wp2_with fail
  refine (new_D w1).mono ?_
  rintro e w2 ⟨rfl, hd2, hs2⟩
  have D2 := Lib.hid hd2; have S2 := Lib.hid hs2; clear hd2 hs2
  go_wp2_with fail
  refine (fail_D D2.out many (by omega)).mono ?_
  rintro e w3 ⟨rfl, hd3, hs3⟩
  have D3 := Lib.hid hd3; have S3 := Lib.hid (Keep.trans S1.out (Since.mono (S2.out.trans hs3) S1.out.size)); clear hd3 hs3
  go_wp2_with fail
  go_loopw [10] (fun i wr => ∃ k : Nat, k ≤ many + q + 1 ∧ i = .int .i64 k ∧ ∃ d : DS, Hid (FInv d many k ∧ D w1.heap.size wr w1.heap.size d ∧ Since w.heap.size w wr)) (fun i _ => many + q + 1 - (intOf i).toNat)
  case atStart => exact ⟨0, Nat.zero_le _, rfl, _, Lib.hid ⟨FInv.start many, D3.out, S3.out⟩⟩
  case round =>
    obtain ⟨k, hk, rfl, d, HI⟩ := hrel
    obtain ⟨wo, rfl⟩ : ∃ wo : World, wo = wr := ⟨_, rfl⟩
    by_cases hlt : k < many + q + 1
    · by_cases hk2 : many ≤ k
      · obtain ⟨d1, e1, i1⟩ := HI.out.1.sync
        obtain ⟨d2, e2, i2⟩ := HI.out.1.write (by omega)
        rw [if_pos hk2] at e1 e2
        have few1 := HI.out.1.few (by omega)
        have H1 := Lib.hid (sync_D HI.out.2.1 few1 e1)
        have H2 := Lib.hid (write_D HI.out.2.1 (k : Int) ⟨#[122]⟩ (by omega) (by decide) few1 e2)
        have I1 := Lib.hid i1
        have I2 := Lib.hid i2
        clear e1 e2 i1 i2 few1
        go_wp2_with fail
        · refine H1.out.mono ?_
          rintro e w' ⟨rfl, hd', hs'⟩
          have HN := Lib.hid (show FInv d1 many (k + 1) ∧ D w1.heap.size w' w1.heap.size d1 ∧ Since w.heap.size w w' from ⟨I1.out, hd', Keep.trans HI.out.2.2 (Since.mono hs' S1.out.size)⟩)
          clear hd' hs'
          go_wp2_with fail
          exact ⟨⟨k + 1, by omega, by go_num, d1, HN⟩, by simp [intOf]; omega⟩
        · refine H2.out.mono ?_
          rintro e w' ⟨rfl, hd', hs'⟩
          have HN := Lib.hid (show FInv d2 many (k + 1) ∧ D w1.heap.size w' w1.heap.size d2 ∧ Since w.heap.size w w' from ⟨I2.out, hd', Keep.trans HI.out.2.2 (Since.mono hs' S1.out.size)⟩)
          clear hd' hs'
          go_wp2_with fail
          exact ⟨⟨k + 1, by omega, by go_num, d2, HN⟩, by simp [intOf]; omega⟩
      · obtain ⟨d1, e1, i1⟩ := HI.out.1.sync
        obtain ⟨d2, e2, i2⟩ := HI.out.1.write (by omega)
        rw [if_neg hk2] at e1 e2
        have few1 := HI.out.1.few (by omega)
        have H1 := Lib.hid (sync_D HI.out.2.1 few1 e1)
        have H2 := Lib.hid (write_D HI.out.2.1 (k : Int) ⟨#[122]⟩ (by omega) (by decide) few1 e2)
        have I1 := Lib.hid i1
        have I2 := Lib.hid i2
        clear e1 e2 i1 i2 few1
        go_wp2_with fail
        · refine H1.out.mono ?_
          rintro e w' ⟨rfl, hd', hs'⟩
          have HN := Lib.hid (show FInv d1 many (k + 1) ∧ D w1.heap.size w' w1.heap.size d1 ∧ Since w.heap.size w w' from ⟨I1.out, hd', Keep.trans HI.out.2.2 (Since.mono hs' S1.out.size)⟩)
          clear hd' hs'
          go_wp2_with fail
          exact ⟨⟨k + 1, by omega, by go_num, d1, HN⟩, by simp [intOf]; omega⟩
        · refine H2.out.mono ?_
          rintro e w' ⟨rfl, hd', hs'⟩
          have HN := Lib.hid (show FInv d2 many (k + 1) ∧ D w1.heap.size w' w1.heap.size d2 ∧ Since w.heap.size w w' from ⟨I2.out, hd', Keep.trans HI.out.2.2 (Since.mono hs' S1.out.size)⟩)
          clear hd' hs'
          go_wp2_with fail
          exact ⟨⟨k + 1, by omega, by go_num, d2, HN⟩, by simp [intOf]; omega⟩
    · obtain rfl : k = many + q + 1 := by omega
      obtain ⟨d3, e3, c3⟩ := HI.out.1.again (by omega)
      have hsz := HI.out.1.size
      have hca := HI.out.1.calls
      rw [Nat.min_eq_right (by omega)] at hsz hca
      have hf0 := HI.out.1.few (by omega)
      have hf3 : (d.fail (-1)).few 100000000 := hf0
      have HC := Lib.hid hca
      have E3 := Lib.hid e3
      have C3 := Lib.hid c3
      clear e3 c3 hca hf0
      go_wp2_with fail
      refine (calls_D HI.out.2.1).mono ?_
      rintro e wx ⟨rfl, rfl⟩
      rw [HC.out]
      go_wp2_with fail
      refine (size_D HI.out.2.1).mono ?_
      rintro e wx ⟨rfl, rfl⟩
      go_wp2_with fail
      refine (fail_D HI.out.2.1 (-1) (by decide)).mono ?_
      rintro e w4 ⟨rfl, hd4, hs4⟩
      have D4 := Lib.hid hd4; have S4 := Lib.hid (Keep.trans HI.out.2.2 (Since.mono hs4 S1.out.size)); clear hd4 hs4
      go_wp2_with fail
      refine (write_D D4.out 0 ⟨#[97, 103, 97, 105, 110]⟩ (by decide) (by decide) hf3 E3.out).mono ?_
      rintro e w5 ⟨rfl, hd5, hs5⟩
      have D5 := Lib.hid hd5; have S5 := Lib.hid (Keep.trans S4.out (Since.mono hs5 S1.out.size)); clear hd5 hs5
      go_wp2_with fail
      refine (calls_D D5.out).mono ?_
      rintro e wx ⟨rfl, rfl⟩
      rw [C3.out]
      go_wp2_with fail
      go_ret
      exact ⟨rfl, below_since S5.out rfl⟩
set_option maxRecDepth 100000 in
theorem fails_lifted (os : Os) (started : os.Started) (H : Type) (enc : TypeId × Value → H) :
    ReturnsInHanded {} Try.checked os 7 .any (Rows.diskFailsSpec.pre6 enc Try.prog Try.f7 Rows.diskFailsRow.domain false) (Rows.diskFailsSpec.post enc Try.prog Try.f7 false true false false) := by
  refine law_lift (C := Try.checked) Try.own started (by kernel_rfl) Try.func7
    (ChangeSpec.witness6 (enc := enc) (C := Try.checked) false ⟨#[], #[.int .u8 0, .int .u32 0, .int .u8 0], []⟩ 8 (by kernel_rfl) (by kernel_rfl) (by kernel_rfl) (by kernel_rfl))
    Try.laidOut (by kernel_rfl) rfl rfl Try.underlying4 ?_ ?_
  · intro ds hl
    match ds, hl with
    | [d1, d2, d3], _ => exact ⟨rfl, rfl, rfl⟩
  · intro W base args ds p hval0 hA0 hlt hsz0
    have hval : ∀ (j : Nat) t v, Try.f7.params[j]? = some t → args[j]? = some v → Value.okWide Try.prog W .any base t v := hval0
    have hA : DataW.TrodAll enc Try.prog W 0 (fun _ => true) true Try.f7.params.toList args.toList ds p := hA0
    have hsz : (DataW.weightsEach Try.prog Try.f7.params.toList ds).all (· ≤ reachBytes) = true := hsz0
    rw [Try.params7] at hA hval hsz
    clear hA0 hval0 hsz0
    obtain ⟨v0, v1, v2, d0, d1, d2, p0, p1, p2, rfl, rfl, rfl, h0, h1, h2⟩ := trodAll_three hA
    obtain ⟨n, rfl, rfl, rfl, wn⟩ := open_int Try.underlying5 (hval 0 5 v0 rfl rfl) h0
    obtain ⟨b, rfl, rfl, rfl, wb⟩ := open_int Try.underlying50 (hval 1 50 v1 rfl rfl) h1
    obtain ⟨m, rfl, rfl, rfl, wm⟩ := open_int Try.underlying5 (hval 2 5 v2 rfl rfl) h2
    exact fails_walk n b m (bd_u8 wn) (bd_u32 wb) (bd_u8 wm) W

/-- The statement. -/
theorem fails_holds : Rows.DiskFailsSaid :=
  OpenClaim.holds_of_wide 7 Try.f7 rfl rfl rfl rfl rfl rfl rfl ⟨rfl, rfl, rfl, rfl, rfl⟩ rfl rfl rfl rfl rfl (by kernel_rfl) Try.func7 (by kernel_rfl)
    (of_decide_eq_true (by kernel_rfl)) (by unfold Func.isWrapper; first | (rw [if_pos (by decide +kernel)]; kernel_rfl) | (rw [if_neg (by decide +kernel)]; exact ⟨rfl, rfl⟩))
    (fun os started H enc _ => fails_lifted os started H enc)
#print axioms fails_holds
end Go.Proofs.Ythhcnfbolhoeaaa
