/- The reference model of a disk: Read, Crash; its methods by one answer. -/
import Derived.Test.YthhcnfbolhoeaaaR3
import Derived.StillTailTactics
namespace Go.Proofs.Ythhcnfbolhoeaaa
open Go.RowKit
set_option linter.unusedVariables false

theorem rwrite_step {w : World} {r : RRep} {d : DS} (h : IsRef w r d) (off : Int) (s : ByteArray) (hoff : -9223372036854775808 ≤ off ∧ off ≤ 9223372036854775807) (hs : s.size ≤ 140737488351232) (hf : d.few 100000000) :
    Calls Try.prog 32 #[.pointer (some ⟨r.p, 0, none⟩), .int .i64 off, .string s] w fun e w' => e = .returned (.int .i64 (d.doWrite off (bs s)).1) ∧ ∃ r', RStep w r w' r' (d.doWrite off (bs s)).2 := by
  unfold DS.doWrite
  rw [bs_length]
  by_cases hb : fitsAt off s.size = true
  · rw [if_pos hb]
    obtain ⟨o, rfl⟩ : ∃ o : Nat, off = o := by
      simp only [fitsAt, Bool.and_eq_true, decide_eq_true_eq] at hb
      exact ⟨off.toNat, by omega⟩
    have hb' : o + s.size ≤ 16777216 := by
      simp only [fitsAt, Bool.and_eq_true, decide_eq_true_eq] at hb
      omega
    cases ho : d.off with
    | true =>
      rw [if_pos rfl]
      exact (ref_off h ho o s hb').mono fun _ _ ⟨he, hw⟩ => ⟨he, r, hw ▸ RStep.refl h⟩
    | false =>
      rw [if_neg (by simp)]
      exact ref_write h ho (by have := hf.1; omega) o s hb' (by have := hf.2; omega)
  · rw [if_neg hb]
    exact (ref_bad w _ off s hoff hs (by simpa using hb)).mono fun _ _ ⟨he, hw⟩ => ⟨he, r, hw ▸ RStep.refl h⟩
theorem rsync_step {w : World} {r : RRep} {d : DS} (h : IsRef w r d) (hf : d.few 100000000) :
    Calls Try.prog 33 #[.pointer (some ⟨r.p, 0, none⟩)] w fun e w' => e = .returned (.int .i64 d.doSync.1) ∧ ∃ r', RStep w r w' r' d.doSync.2 := by
  unfold DS.doSync
  cases ho : d.off with
  | true =>
    rw [if_pos rfl]
    exact (syncoff_ref h ho).mono fun _ _ ⟨he, hw⟩ => ⟨he, r, hw ▸ RStep.refl h⟩
  | false =>
    rw [if_neg (by simp)]
    exact sync_ref h ho (by have := hf.1; omega)

theorem rread_none {w : World} {r : RRep} {d : DS} (h : IsRef w r d) (off n : Int) (hoff : -9223372036854775808 ≤ off ∧ off ≤ 9223372036854775807) (hc : off < 0 ∨ n < 1 ∨ (d.now.length : Int) ≤ off) :
    Calls Try.prog 31 #[.pointer (some ⟨r.p, 0, none⟩), .int .i64 off, .int .i64 n] w fun e w' => e = .returned (.string (sb (readL d.now off n))) ∧ ∃ m, w' = w.drewN m := by
  obtain ⟨A, c, _, h0, _⟩ := h.cells
  have hr : readL d.now off n = [] := if_pos hc
  rw [hr]
  have hsb : sb [] = ⟨#[]⟩ := rfl
  rw [hsb]
  obtain ⟨x, hx⟩ : ∃ x, sb d.now = x := ⟨_, rfl⟩
  have hxs : x.size = d.now.length := by rw [← hx, sb_size]
  rw [hx] at h0
  rw [← hxs] at hc
  clear h hr hsb hx hxs
  by_cases h1 : off < 0
  · have d1 : decide (off < 0) = true := by simpa using h1
    clear hc
    go_enter Try.func31, Try.ntmps31
    go_wp2_with fail
    go_ret
    exact ⟨rfl, 0, rfl⟩
  · have d1 : decide (off < 0) = false := by simpa using h1
    by_cases h2 : n < 1
    · have d2 : decide (n < 1) = true := by simpa using h2
      clear hc
      go_enter Try.func31, Try.ntmps31
      go_wp2_with fail
      go_ret
      exact ⟨rfl, 0, rfl⟩
    · have d2 : decide (n < 1) = false := by simpa using h2
      have d3 : decide ((x.size : Int) ≤ off) = true := by simp; omega
      clear hc
      go_enter Try.func31, Try.ntmps31
      go_wp2_with fail
      go_ret
      exact ⟨rfl, 0, rfl⟩

set_option maxHeartbeats 1000000 in
theorem rread_some {w : World} {r : RRep} {d : DS} (h : IsRef w r d) (off : Nat) (n : Int) (hn : 1 ≤ n) (hn' : n ≤ 9223372036854775807) (hoff : off < d.now.length) :
    Calls Try.prog 31 #[.pointer (some ⟨r.p, 0, none⟩), .int .i64 (off : Int), .int .i64 n] w fun e w' => e = .returned (.string (sb (readL d.now off n))) ∧ ∃ m, w' = w.drewN m := by
  obtain ⟨A, c, _, h0, _⟩ := h.cells
  have hlen : d.now.length ≤ 16777216 := h.ok.now
  obtain ⟨x, hx⟩ : ∃ x, sb d.now = x := ⟨_, rfl⟩
  have hxs : x.size = d.now.length := by rw [← hx, sb_size]
  have hbx : bs x = d.now := by rw [← hx, bs_sb]
  rw [hx] at h0
  obtain ⟨k, hk⟩ : ∃ k : Nat, (min n (d.now.length - off)).toNat = k := ⟨_, rfl⟩
  have hk1 : 1 ≤ k ∧ k ≤ x.size - off ∧ (k : Int) = min n ((x.size : Int) - off) := by omega
  have hr : readL d.now off n = bs (x.extract off (off + k)) := by
    unfold readL
    rw [if_neg (by omega), bs_extract, hbx, hk]
    rfl
  rw [hr, sb_bs]
  have d1 : decide ((off : Int) < 0) = false := by simp
  have d2 : decide (n < 1) = false := by simp; omega
  have d3 : decide (x.size ≤ off) = false := by simp; omega
  have d3' : decide ((x.size : Int) ≤ off) = false := by simp; omega
  rw [← hxs] at hlen
  have hsub : IntKind.i64.wrap ((x.size : Int) - off) = (x.size : Int) - off := by rw [IntKind.wrap_i64]; omega
  by_cases hlt : (x.size : Int) - off < n
  · obtain rfl : k = x.size - off := by omega
    have ek : off + (x.size - off) = x.size := by omega
    rw [ek]
    have hsum : IntKind.i64.wrap ((off : Int) + ((x.size : Int) - off)) = (x.size : Int) := by rw [IntKind.wrap_i64]; omega
    have hsum' : (off : Int) + ((x.size : Int) - off) = (x.size : Int) := by omega
    have hol : (off : Int) ≤ x.size := by omega
    have hol' : off ≤ x.size := by omega
    clear h hr hk hk1 hx hxs hbx ek
    go_enter Try.func31, Try.ntmps31
    go_wp2_with fail
    go_region
    all_goals go_wp2_with fail
    all_goals go_ret
    all_goals exact ⟨rfl, 1, rfl⟩
  · obtain rfl : n = (k : Int) := by omega
    have hsum : IntKind.i64.wrap ((off : Int) + (k : Int)) = (off : Int) + k := by rw [IntKind.wrap_i64]; omega
    have hA : (0 : Int) ≤ (off : Int) + k := by omega
    have hB : (off : Int) + k ≤ x.size := by omega
    have hC : (off : Int) ≤ (off : Int) + k := by omega
    have hD : ((off : Int) + k).toNat = off + k := by omega
    clear h hr hk hk1 hx hxs hbx
    go_enter Try.func31, Try.ntmps31
    go_wp2_with fail
    go_region
    all_goals go_wp2_with fail
    all_goals go_ret
    all_goals exact ⟨rfl, 1, rfl⟩
theorem rread {w : World} {r : RRep} {d : DS} (h : IsRef w r d) (off n : Int) (hoff : -9223372036854775808 ≤ off ∧ off ≤ 9223372036854775807) (hn : n ≤ 9223372036854775807) :
    Calls Try.prog 31 #[.pointer (some ⟨r.p, 0, none⟩), .int .i64 off, .int .i64 n] w fun e w' => e = .returned (.string (sb (readL d.now off n))) ∧ ∃ m, w' = w.drewN m := by
  by_cases hc : off < 0 ∨ n < 1 ∨ (d.now.length : Int) ≤ off
  · exact rread_none h off n hoff hc
  · obtain ⟨o, rfl⟩ : ∃ o : Nat, off = o := ⟨off.toNat, by omega⟩
    exact rread_some h o n (by omega) hn (by omega)
end Go.Proofs.Ythhcnfbolhoeaaa
