/- Contracts of a disk whose parts are left open: 'a disk in state d lies at block p, in blocks from n on'. -/
import Derived.Test.YtbmmcdnmbdoglaaD9
namespace Go.Proofs.Ytbmmcdnmbdoglaa
open Go.RowKit
set_option linter.unusedVariables false

/-- What a Write answers, and what it leaves. -/
def DS.doWrite (d : DS) (off : Int) (s : Bytes) : Int × DS := if fitsAt off s.length then (if d.off then (70, d) else (0, d.write off.toNat s)) else (1, d)
def DS.doSync (d : DS) : Int × DS := if d.off then (70, d) else (0, d.sync)
/-- How much has been done. -/
def DS.few (d : DS) (k : Nat) : Prop := d.calls ≤ k ∧ d.parts.length ≤ k

theorem write_step {w : World} {r : Rep} {d : DS} (h : IsDisk w r d) (off : Int) (s : ByteArray) (hoff : -9223372036854775808 ≤ off ∧ off ≤ 9223372036854775807) (hs : s.size ≤ 9223372036854775807) (hf : d.few 100000000) :
    Calls Try.prog 22 #[.pointer (some ⟨r.p, 0, none⟩), .int .i64 off, .string s] w fun e w' => e = .returned (.int .i64 (d.doWrite off (bs s)).1) ∧ ∃ r', Step w r w' r' (d.doWrite off (bs s)).2 := by
  unfold DS.doWrite
  rw [bs_length]
  by_cases hb : fitsAt off s.size = true
  · rw [if_pos hb]
    obtain ⟨o, rfl⟩ : ∃ o : Nat, off = o := by
      simp only [fitsAt, Bool.and_eq_true, decide_eq_true_eq] at hb
      exact ⟨off.toNat, by omega⟩
    have hb' : o + s.size ≤ 16777216 := by
      simp only [fitsAt, Bool.and_eq_true, decide_eq_true_eq] at hb
      omega
    cases ho : d.off with
    | true =>
      rw [if_pos rfl]
      exact (write_off h ho o s hb').mono fun _ _ ⟨he, hw⟩ => ⟨he, r, hw ▸ Step.refl h⟩
    | false =>
      rw [if_neg (by simp)]
      exact write_disk h ho (by have := hf.1; omega) o s hb' (by have := hf.2; omega)
  · rw [if_neg hb]
    exact (write_bad w _ off s hoff hs (.inr (by simpa using hb))).mono fun _ _ ⟨he, hw⟩ => ⟨he, r, hw ▸ Step.refl h⟩
theorem sync_step {w : World} {r : Rep} {d : DS} (h : IsDisk w r d) (hf : d.few 100000000) :
    Calls Try.prog 23 #[.pointer (some ⟨r.p, 0, none⟩)] w fun e w' => e = .returned (.int .i64 d.doSync.1) ∧ ∃ r', Step w r w' r' d.doSync.2 := by
  unfold DS.doSync
  cases ho : d.off with
  | true =>
    rw [if_pos rfl]
    exact (sync_off h ho).mono fun _ _ ⟨he, hw⟩ => ⟨he, r, hw ▸ Step.refl h⟩
  | false =>
    rw [if_neg (by simp)]
    exact sync_disk h ho (by have := hf.1; omega)
theorem fail_step {w : World} {r : Rep} {d : DS} (h : IsDisk w r d) (n : Int) (hn : n ≤ 1000000000000) :
    Calls Try.prog 20 #[.pointer (some ⟨r.p, 0, none⟩), .int .i64 n] w fun e w' => e = .returned (.tuple #[]) ∧ ∃ r', Step w r w' r' (d.fail n) :=
  (fail_disk h n hn).mono fun _ _ ⟨he, hd, hk⟩ => ⟨he, r, step_of_keep hd hk⟩

/-! ### A disk that lies from n on -/
abbrev Since (n : Nat) (w w' : World) : Prop := Keep (fun k => n ≤ k) w w'
def D (n : Nat) (w : World) (p : Nat) (d : DS) : Prop := ∃ r : Rep, r.p = p ∧ IsDisk w r d ∧ ∀ k, r.foot k → n ≤ k
theorem Since.mono {n m : Nat} {w w' : World} (h : Since n w w') (hm : m ≤ n) : Since m w w' := Keep.mono h (fun k hk => Nat.le_trans hm hk)
theorem since_draw (n k : Nat) (w : World) : Since n w (w.drewN k) := keep_drewN _ w k
theorem Since.of {n : Nat} {w w' : World} (h : Keep (fun _ => False) w w') : Since n w w' := Keep.mono h (fun _ => False.elim)
theorem D.mono {n m : Nat} {w : World} {p : Nat} {d : DS} (h : D n w p d) (hm : m ≤ n) : D m w p d := let ⟨r, hp, hd, hf⟩ := h; ⟨r, hp, hd, fun k hk => Nat.le_trans hm (hf k hk)⟩
theorem D.since {n m : Nat} {w w' : World} {p : Nat} {d : DS} (h : D n w p d) (hs : Since m w w') (hm : w.heap.size ≤ m) : D n w' p d :=
  let ⟨r, hp, hd, hf⟩ := h; ⟨r, hp, hd.keep hs (fun k hk hk' => Nat.lt_irrefl _ (Nat.lt_of_lt_of_le (hd.foot_lt k hk) (Nat.le_trans hm hk'))), hf⟩
theorem D.draw {n : Nat} {w : World} {p : Nat} {d : DS} (h : D n w p d) (k : Nat) : D n (w.drewN k) p d := let ⟨r, hp, hd, hf⟩ := h; ⟨r, hp, hd.drewN k, hf⟩
theorem D.step {n : Nat} {w w' : World} {r : Rep} {p : Nat} (hp : r.p = p) (hf : ∀ k, r.foot k → n ≤ k) (hn : n ≤ w.heap.size) {r' : Rep} {d' : DS} (h : Step w r w' r' d') : D n w' p d' ∧ Since n w w' :=
  ⟨⟨r', h.p.trans hp, h.disk, fun k hk => by rcases h.foot k hk with h1 | h1; exact hf k h1; omega⟩, Keep.mono h.keep hf⟩
theorem D.lt {n : Nat} {w : World} {p : Nat} {d : DS} (h : D n w p d) : n ≤ p ∧ p < w.heap.size := let ⟨r, hp, hd, hf⟩ := h; ⟨hp ▸ hf _ (.inl rfl), hp ▸ blk_lt hd.blk⟩
theorem D.ok {n : Nat} {w : World} {p : Nat} {d : DS} (h : D n w p d) : d.Ok := let ⟨r, hp, hd, hf⟩ := h; hd.ok
theorem D.le {n : Nat} {w : World} {p : Nat} {d : DS} (h : D n w p d) : n ≤ w.heap.size := Nat.le_trans h.lt.1 (Nat.le_of_lt h.lt.2)

theorem new_D (w : World) : Calls Try.prog 11 #[] w fun e w' => e = .returned (.pointer (some ⟨w.heap.size, 0, none⟩)) ∧ D w.heap.size w' w.heap.size DS.new ∧ Since w.heap.size w w' := by
  refine (new_disk w).mono ?_
  rintro e w' ⟨he, rfl⟩
  exact ⟨he, ⟨_, rfl, isDisk_new w, foot_new w⟩, Since.of ((Keep.refl _ w).alloc' _)⟩
theorem write_D {n : Nat} {w : World} {p : Nat} {d : DS} (h : D n w p d) (off : Int) (s : ByteArray) (hoff : -9223372036854775808 ≤ off ∧ off ≤ 9223372036854775807) (hs : s.size ≤ 9223372036854775807) (hf : d.few 100000000)
    {c : Int} {d' : DS} (hr : d.doWrite off (bs s) = (c, d')) :
    Calls Try.prog 22 #[.pointer (some ⟨p, 0, none⟩), .int .i64 off, .string s] w fun e w' => e = .returned (.int .i64 c) ∧ D n w' p d' ∧ Since n w w' := by
  obtain ⟨r, rfl, hd, hft⟩ := id h
  have := write_step hd off s hoff hs hf
  rw [hr] at this
  exact this.mono fun _ _ ⟨he, r', hst⟩ => ⟨he, D.step rfl hft h.le hst⟩
theorem sync_D {n : Nat} {w : World} {p : Nat} {d : DS} (h : D n w p d) (hf : d.few 100000000) {c : Int} {d' : DS} (hr : d.doSync = (c, d')) :
    Calls Try.prog 23 #[.pointer (some ⟨p, 0, none⟩)] w fun e w' => e = .returned (.int .i64 c) ∧ D n w' p d' ∧ Since n w w' := by
  obtain ⟨r, rfl, hd, hft⟩ := id h
  have := sync_step hd hf
  rw [hr] at this
  exact this.mono fun _ _ ⟨he, r', hst⟩ => ⟨he, D.step rfl hft h.le hst⟩
theorem fail_D {n : Nat} {w : World} {p : Nat} {d : DS} (h : D n w p d) (k : Int) (hk : k ≤ 1000000000000) :
    Calls Try.prog 20 #[.pointer (some ⟨p, 0, none⟩), .int .i64 k] w fun e w' => e = .returned (.tuple #[]) ∧ D n w' p (d.fail k) ∧ Since n w w' := by
  obtain ⟨r, rfl, hd, hft⟩ := id h
  exact (fail_step hd k hk).mono fun _ _ ⟨he, r', hst⟩ => ⟨he, D.step rfl hft h.le hst⟩
theorem size_D {n : Nat} {w : World} {p : Nat} {d : DS} (h : D n w p d) : Calls Try.prog 26 #[.pointer (some ⟨p, 0, none⟩)] w fun e w' => e = .returned (.int .i64 d.now.length) ∧ w = w' := by
  obtain ⟨r, rfl, hd, hft⟩ := h
  exact size_disk hd
theorem read_D {n : Nat} {w : World} {p : Nat} {d : DS} (h : D n w p d) (off k : Int) (hoff : -9223372036854775808 ≤ off ∧ off ≤ 9223372036854775807) (hn : k ≤ 9223372036854775807) :
    Calls Try.prog 25 #[.pointer (some ⟨p, 0, none⟩), .int .i64 off, .int .i64 k] w fun e w' => e = .returned (.string (sb (readL d.now off k))) ∧ ∃ m, w' = w.drewN m := by
  obtain ⟨r, rfl, hd, hft⟩ := h
  exact read_disk hd off k hoff hn
theorem crash_D {n : Nat} {w : World} {p : Nat} {d : DS} (h : D n w p d) (S : Option Addr) (m sc : Nat) (ns : List Int) (hS : IntsAt w S m ns) (hns : ∀ x ∈ ns, -9223372036854775808 ≤ x ∧ x ≤ 9223372036854775807) (hn : d.parts.length ≤ 1000000000) :
    Calls Try.prog 18 #[.pointer (some ⟨p, 0, none⟩), .slice S m sc] w fun e w' => e = .returned (.pointer (some ⟨w.heap.size, 0, none⟩)) ∧ D w.heap.size w' w.heap.size (d.crash ns) ∧ Since w.heap.size w w' := by
  obtain ⟨r, rfl, hd, hft⟩ := h
  refine (crash_disk hd S m sc ns hS hns hn).mono ?_
  rintro e w' ⟨he, r', hp, hd', hk, hf⟩
  exact ⟨he, ⟨r', hp, hd', hf⟩, Since.of hk⟩

theorem below_since {n : Nat} {w w' : World} (h : Since n w w') (hn : n = w.heap.size) : Below w.heap.size w w' := by
  subst hn
  exact ⟨h.os, h.tape, h.output, h.size, fun k hk => h.block k hk (by omega)⟩
end Go.Proofs.Ytbmmcdnmbdoglaa
