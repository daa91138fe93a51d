/- DiskOwn. -/
import Derived.Test.YthhcnfbolhoeaaaD12
import Derived.Test.YthhcnfbolhoeaaaKL
import Derived.Test.YthhcnfbolhoeaaaKS
namespace Go.Proofs.Ythhcnfbolhoeaaa
open Go.ChangeShapes Go.WideShapes Go.ChangeAt Go.RowKit
set_option linter.unusedVariables false

/-- A disk whose blocks lie between two numbers. -/
def DB (n m : Nat) (w : World) (p : Nat) (d : DS) : Prop := ∃ r : Rep, r.p = p ∧ IsDisk w r d ∧ ∀ k, r.foot k → n ≤ k ∧ k < m
theorem D.db {n : Nat} {w : World} {p : Nat} {d : DS} (h : D n w p d) : DB n w.heap.size w p d := let ⟨r, hp, hd, hf⟩ := h; ⟨r, hp, hd, fun k hk => ⟨hf k hk, hd.foot_lt k hk⟩⟩
theorem DB.d {n m : Nat} {w : World} {p : Nat} {d : DS} (h : DB n m w p d) : D n w p d := let ⟨r, hp, hd, hf⟩ := h; ⟨r, hp, hd, fun k hk => (hf k hk).1⟩
theorem DB.since {n m x : Nat} {w w' : World} {p : Nat} {d : DS} (h : DB n m w p d) (hs : Since x w w') (hm : m ≤ x) : DB n m w' p d :=
  let ⟨r, hp, hd, hf⟩ := h; ⟨r, hp, hd.keep hs (fun k hk hk' => by have := (hf k hk).2; omega), hf⟩
theorem write_DB {n m : Nat} {w : World} {p : Nat} {d : DS} (h : DB n m w p d) (off : Int) (s : ByteArray) (hoff : -9223372036854775808 ≤ off ∧ off ≤ 9223372036854775807) (hs : s.size ≤ 9223372036854775807) (hf : d.few 100000000)
    {c : Int} {d' : DS} (hr : d.doWrite off (bs s) = (c, d')) :
    Calls Try.prog 27 #[.pointer (some ⟨p, 0, none⟩), .int .i64 off, .string s] w fun e w' => e = .returned (.int .i64 c) ∧ Keep (fun k => n ≤ k ∧ k < m) w w' := by
  obtain ⟨r, rfl, hd, hft⟩ := id h
  have := write_step hd off s hoff hs hf
  rw [hr] at this
  exact this.mono fun _ _ ⟨he, r', hst⟩ => ⟨he, Keep.mono hst.keep hft⟩
theorem D.keep {n : Nat} {w w' : World} {p : Nat} {d : DS} {F : Nat → Prop} (h : D n w p d) (hk : Keep F w w') (hF : ∀ k, n ≤ k → ¬ F k) : D n w' p d :=
  let ⟨r, hp, hd, hf⟩ := h; ⟨r, hp, hd.keep hk (fun k h1 => hF k (hf k h1)), hf⟩

theorem cell_since {n : Nat} {w w' : World} {a : Addr} {v : Value} (h : Since n w w') (hc : w.cell? a = some v) (ha : a.block < n) : w'.cell? a = some v :=
  (h.cell (World.block_lt_of_cell? _ _ hc) (fun h' => by omega)).trans hc
theorem ints_since {n k : Nat} {w w' : World} {A : Option Addr} {q : List Int} (h : IntsAt w A k q) (hs : Since n w w') (hn : w.heap.size ≤ n) : IntsAt w' A k q := by
  refine ⟨h.1, h.2.1, fun h0 => ?_⟩
  obtain ⟨b, off, e, hl, hc⟩ := h.2.2 h0
  exact ⟨b, off, e, Nat.lt_of_lt_of_le hl hs.size, fun j hj => (hs.cell (p := ⟨b, off + j, none⟩) hl (fun h' => by simp only at h'; omega)).trans (hc j hj)⟩
theorem doWrite_on {d : DS} {off : Int} {s : Bytes} (h0 : 0 ≤ off) (h1 : off + s.length ≤ 16777216) (ho : d.off = false) : d.doWrite off s = (0, d.write off.toNat s) := by
  unfold DS.doWrite
  rw [if_pos (by simp [fitsAt, h0, h1]), ho]
  rfl
theorem doSync_on {d : DS} (ho : d.off = false) : d.doSync = (0, d.sync) := by
  unfold DS.doSync
  rw [ho]
  rfl

theorem size_append' (a b : ByteArray) : (a ++ b).size = a.size + b.size := by
  have : (a ++ b).data.size = a.data.size + b.data.size := by simp [ByteArray.data_append]
  exact this

set_option maxHeartbeats 4000000 in
set_option maxRecDepth 100000 in
theorem own_walk (s : ByteArray) (A : Option Addr) (m c : Nat) (q : List Int) (t0 t1 : Int) (hs : s.size ≤ 140737488351232) (hq : ∀ x ∈ q, -9223372036854775808 ≤ x ∧ x ≤ 9223372036854775807) (h0 : -9223372036854775808 ≤ t0 ∧ t0 ≤ 9223372036854775807) (h1 : -9223372036854775808 ≤ t1 ∧ t1 ≤ 9223372036854775807) (w : World) (hA : IntsAt w A m q) :
    Calls Try.prog 8 #[.string s, .slice A m c, .agg #[.int .i64 t0, .int .i64 t1]] w fun e w' => e = .returned (.bool true) ∧ Below w.heap.size w w' := by
  have HA := Lib.hid hA; clear hA
  have HQ := Lib.hid hq; clear hq
  obtain ⟨k, hk⟩ : ∃ k : Nat, min s.size 150 = k := ⟨_, rfl⟩
  have hmin : ∀ w, (Builtin.min_ #[3, 3] 3 #[.int .i64 (s.size : Int), .int .i64 150]).run Try.prog w = .ok (.int .i64 (k : Int)) w := by
    intro w
    rw [run_min_int2]
    congr 2
    split <;> omega
  have hk1 : k ≤ s.size := by omega
  have hk2 : k ≤ 150 := by omega
  have hx1 : (s.extract 0 k).size = k := by rw [ByteArray.size_extract]; omega
  obtain ⟨y, hy⟩ : ∃ y, s.extract 0 k = y := ⟨_, rfl⟩
  have hys : y.size ≤ 150 := by rw [← hy]; omega
  have hadd : ∀ w, (Op.stringOp .add (s.extract 0 k) ⟨#[101, 110, 100]⟩).run Try.prog w = .ok (.string (y ++ ⟨#[101, 110, 100]⟩)) w := by
    intro w
    rw [hy, run_string_add_sum w _ _ (by have : (⟨#[101, 110, 100]⟩ : ByteArray).size = 3 := rfl; omega)]
  obtain ⟨x, hx⟩ : ∃ x : ByteArray, y ++ ⟨#[101, 110, 100]⟩ = x := ⟨_, rfl⟩
  have hxs : x.size ≤ 153 := by
    rw [← hx, size_append']
    have : (⟨#[101, 110, 100]⟩ : ByteArray).size = 3 := rfl
    omega
  rw [hx] at hadd
  clear hx hy hys hx1
  obtain ⟨a0, ha0⟩ : ∃ a0 : Nat, t0 % 100 = a0 := ⟨(t0 % 100).toNat, by omega⟩
  obtain ⟨a1, ha1⟩ : ∃ a1 : Nat, t1 % 100 = a1 := ⟨(t1 % 100).toNat, by omega⟩
  have hb0 : a0 < 100 := by omega
  have hb1 : a1 < 100 := by omega
  have M0 := fun w => Lib.hid (ha0 ▸ mod_any w t0 100 (by decide) (by decide) h0)
  have M1 := fun w => Lib.hid (ha1 ▸ mod_any w t1 100 (by decide) (by decide) h1)
  clear ha0 ha1 hk
  have hminH := Lib.hid hmin
  have haddH := Lib.hid hadd
  clear hmin hadd
  -- the states
  have hxl : (bs x).length ≤ 153 := by rw [bs_length]; exact hxs
  obtain ⟨d1, e1⟩ : ∃ d1, DS.new.write 0 (bs x) = d1 := ⟨_, rfl⟩
  have q1 : DS.new.doWrite 0 (bs x) = (0, d1) := by rw [doWrite_on (by decide) (by omega) rfl, ← e1]; rfl
  have c1 : d1.calls = 1 ∧ d1.off = false ∧ d1.parts.length ≤ 153 := by
    rw [← e1]
    exact ⟨rfl, rfl, Nat.le_trans (pieces_length _ _ _ (Nat.le_refl _)) hxl⟩
  obtain ⟨d2, e2⟩ : ∃ d2, d1.sync = d2 := ⟨_, rfl⟩
  have q2 : d1.doSync = (0, d2) := by rw [doSync_on c1.2.1, e2]
  have c2 : d2.calls = 2 ∧ d2.off = false ∧ d2.parts.length = 0 := by
    rw [← e2]
    refine ⟨?_, ?_, rfl⟩
    · show d1.calls + 1 = 2
      rw [c1.1]; rfl
    · rw [← e1]; rfl
  obtain ⟨d3, e3⟩ : ∃ d3, d2.write a0 [110, 101, 119] = d3 := ⟨_, rfl⟩
  have q3 : d2.doWrite (a0 : Int) [110, 101, 119] = (0, d3) := by rw [doWrite_on (by omega) (by simp; omega) c2.2.1, ← e3]; rfl
  have c3 : d3.calls = 3 ∧ d3.off = false ∧ d3.parts.length ≤ 3 := by
    rw [← e3]
    refine ⟨?_, ?_, ?_⟩
    · show d2.calls + 1 = 3
      rw [c2.1]; rfl
    · rw [← e2, ← e1]; rfl
    · show (d2.parts ++ pieces _ _).length ≤ 3
      rw [List.length_append, c2.2.2]
      have := pieces_length 3 a0 [110, 101, 119] (by decide)
      simp at this ⊢
      omega
  obtain ⟨k1, e4⟩ : ∃ k1, d3.crash q = k1 := ⟨_, rfl⟩
  have c4 : k1.calls = 0 ∧ k1.off = false ∧ k1.parts.length = 0 := by rw [← e4]; exact ⟨rfl, rfl, rfl⟩
  obtain ⟨k2, e5⟩ : ∃ k2, k1.write a1 [99, 114, 97, 115, 104] = k2 := ⟨_, rfl⟩
  have q5 : k1.doWrite (a1 : Int) [99, 114, 97, 115, 104] = (0, k2) := by rw [doWrite_on (by omega) (by simp; omega) c4.2.1, ← e5]; rfl
  have c5 : k2.calls = 1 := by
    rw [← e5]
    show k1.calls + 1 = 1
    rw [c4.1]; rfl
  obtain ⟨d4, e6⟩ : ∃ d4, d3.write 0 [99, 104, 97, 110, 103, 101, 100, 32, 97, 103, 97, 105, 110] = d4 := ⟨_, rfl⟩
  have q6 : d3.doWrite 0 [99, 104, 97, 110, 103, 101, 100, 32, 97, 103, 97, 105, 110] = (0, d4) := by rw [doWrite_on (by decide) (by decide) c3.2.1, ← e6]; rfl
  have f1 : d1.few 100000000 := ⟨by rw [c1.1]; decide, by omega⟩
  have f2 : d2.few 100000000 := ⟨by rw [c2.1]; decide, by omega⟩
  have f3 : d3.few 100000000 := ⟨by rw [c3.1]; decide, by omega⟩
  have f4 : k1.few 100000000 := ⟨by rw [c4.1]; decide, by omega⟩
  have f3p : d3.parts.length ≤ 1000000000 := by omega
  have Q1 := Lib.hid q1; have Q2 := Lib.hid q2; have Q3 := Lib.hid q3; have E4 := Lib.hid e4; have Q5 := Lib.hid q5; have C5 := Lib.hid c5; have Q6 := Lib.hid q6
  clear q1 q2 q3 q5 q6 c1 c2 c3 c4 c5 e1 e2 e3 e4 e5 e6 hxl
  go_enter Try.func8, Try.ntmps8
  go_wp2_with fail
  obtain ⟨w0, hw0⟩ : ∃ w0, w.alloc (.cells #[.int .i64 t0, .int .i64 t1] 42) = w0 := ⟨_, rfl⟩
  rw [hw0]
  have hs0 : Since w.heap.size w w0 := by rw [← hw0]; exact Since.of ((Keep.refl _ w).alloc' _)
  have hz0 : w0.heap.size = w.heap.size + 1 := by rw [← hw0]; simp
  have hb : w0.heap[w.heap.size]? = some (.cells #[.int .i64 t0, .int .i64 t1] 42 (0, 0)) := by rw [← hw0]; exact heap_alloc_new _ _
  have hc0 : w0.cell? ⟨w.heap.size, 0, none⟩ = some (.int .i64 t0) := by rw [blk_cell hb]; rfl
  have hc1 : w0.cell? ⟨w.heap.size, 1, none⟩ = some (.int .i64 t1) := by rw [blk_cell hb]; rfl
  have hA0 : IntsAt w0 A m q := HA.out.keep (show Keep (fun _ => False) w w0 by rw [← hw0]; exact (Keep.refl _ w).alloc' _) (fun _ _ => id)
  have HA0 := Lib.hid hA0; have HC0 := Lib.hid hc0; have HC1 := Lib.hid hc1; have S0 := Lib.hid hs0; have HZ0 := Lib.hid hz0
  clear hA0 hc0 hc1 hs0 hz0 hb hw0 HA
  refine (sanity_any w0).mono ?_
  rintro e w1 ⟨rfl, hs1⟩
  have S1 := Lib.hid hs1; clear hs1
  go_wp2_with fail
  refine (new_D w1).mono ?_
  rintro e w2 ⟨rfl, hd2, hs2⟩
  have D2 := Lib.hid hd2; have S2 := Lib.hid (Keep.trans S1.out (Since.mono hs2 S1.out.size)); clear hd2 hs2
  have hmin' := hminH.out
  have hadd' := haddH.out
  go_wp2_with fail
  clear hmin' hadd'
  refine (write_D D2.out 0 x (by decide) (by omega) few_now.1 Q1.out).mono ?_
  rintro e w3 ⟨rfl, hd3, hs3⟩
  have D3 := Lib.hid hd3; have S3 := Lib.hid (Keep.trans S2.out (Since.mono hs3 S1.out.size)); clear hd3 hs3
  go_wp2_with fail
  refine (sync_D D3.out f1 Q2.out).mono ?_
  rintro e w4 ⟨rfl, hd4, hs4⟩
  have D4 := Lib.hid hd4; have S4 := Lib.hid (Keep.trans S3.out (Since.mono hs4 S1.out.size)); clear hd4 hs4
  have hl0 := cell_since S4.out HC0.out (by have := HZ0.out; simp only; omega)
  go_wp2_with fail
  clear hl0
  refine (M0 w4).out.mono ?_
  rintro e wx ⟨rfl, rfl⟩
  go_wp2_with fail
  refine (write_D D4.out (a0 : Int) ⟨#[110, 101, 119]⟩ (by omega) (by decide) f2 Q3.out).mono ?_
  rintro e w5 ⟨rfl, hd5, hs5⟩
  have D5 := Lib.hid hd5; have S5 := Lib.hid (Keep.trans S4.out (Since.mono hs5 S1.out.size)); clear hd5 hs5
  go_wp2_with fail
  refine (crash_D D5.out A m c q (ints_since HA0.out S5.out (Nat.le_refl _)) HQ.out f3p).mono ?_
  rintro e w6 ⟨rfl, hd6, hs6⟩
  rw [E4.out] at hd6
  have K6 := Lib.hid hd6; have S6 := Lib.hid (Keep.trans S5.out (Since.mono hs6 S5.out.size)); have B6 := Lib.hid (D5.out.db.since hs6 (Nat.le_refl _)); clear hd6 hs6
  go_wp2_with fail
  refine (read_S B6.out.d 0 500 (by decide) (by decide) rfl).mono ?_
  rintro e w7 ⟨rfl, hs7⟩
  have K7 := Lib.hid (K6.out.since hs7 (Nat.le_refl _)); have S7 := Lib.hid (Keep.trans S6.out (Since.mono hs7 S6.out.size)); have B7 := Lib.hid (B6.out.since hs7 K6.out.le); clear hs7
  have hl1 := cell_since S7.out HC1.out (by have := HZ0.out; simp only; omega)
  go_wp2_with fail
  clear hl1
  refine (M1 w7).out.mono ?_
  rintro e wx ⟨rfl, rfl⟩
  go_wp2_with fail
  refine (write_D K7.out (a1 : Int) ⟨#[99, 114, 97, 115, 104]⟩ (by omega) (by decide) f4 Q5.out).mono ?_
  rintro e w8 ⟨rfl, hd8, hs8⟩
  have K8 := Lib.hid hd8; have S8 := Lib.hid (Keep.trans S7.out (Since.mono hs8 S5.out.size)); have B8 := Lib.hid (B7.out.since hs8 (Nat.le_refl _)); clear hd8 hs8
  go_wp2_with fail
  refine (read_S K8.out 0 500 (by decide) (by decide) rfl).mono ?_
  rintro e w9 ⟨rfl, hs9⟩
  have K9 := Lib.hid (K8.out.since hs9 (Nat.le_refl _)); have S9 := Lib.hid (Keep.trans S8.out (Since.mono hs9 S8.out.size)); have B9 := Lib.hid (B8.out.since hs9 K8.out.le); clear hs9
  go_wp2_with fail
  refine (read_S B9.out.d 0 500 (by decide) (by decide) rfl).mono ?_
  rintro e w10 ⟨rfl, hs10⟩
  have K10 := Lib.hid (K9.out.since hs10 (Nat.le_refl _)); have S10 := Lib.hid (Keep.trans S9.out (Since.mono hs10 S9.out.size)); have B10 := Lib.hid (B9.out.since hs10 K9.out.le); clear hs10
  go_wp2_with fail
  refine (write_DB B10.out 0 ⟨#[99, 104, 97, 110, 103, 101, 100, 32, 97, 103, 97, 105, 110]⟩ (by decide) (by decide) f3 Q6.out).mono ?_
  rintro e w11 ⟨rfl, hs11⟩
  have K11 := Lib.hid (K10.out.keep hs11 (fun k h h' => by omega)); have S11 := Lib.hid (Keep.trans S10.out (Keep.mono hs11 (fun k h => Nat.le_trans S1.out.size h.1))); clear hs11
  go_wp2_with fail
  refine (read_S K11.out 0 500 (by decide) (by decide) rfl).mono ?_
  rintro e w12 ⟨rfl, hs12⟩
  have K12 := Lib.hid (K11.out.since hs12 (Nat.le_refl _)); have S12 := Lib.hid (Keep.trans S11.out (Since.mono hs12 S11.out.size)); clear hs12
  go_wp2_with fail
  refine (calls_D K12.out).mono ?_
  rintro e wx ⟨rfl, rfl⟩
  rw [C5.out]
  go_wp2_with fail
  go_ret
  exact ⟨rfl, below_since (Keep.trans S0.out (Since.mono S12.out S0.out.size)) rfl⟩
set_option maxRecDepth 100000 in
theorem own_lifted (os : Os) (started : os.Started) (H : Type) (enc : TypeId × Value → H) :
    ReturnsInHanded {} Try.checked os 8 .any (Rows.diskOwnSpec.pre6 enc Try.prog Try.f8 Rows.diskOwnRow.domain false) (Rows.diskOwnSpec.post enc Try.prog Try.f8 false true false false) := by
  refine law_lift (C := Try.checked) Try.own started (by kernel_rfl) Try.func8
    (ChangeSpec.witness6 (enc := enc) (C := Try.checked) false ⟨#[], #[.string ⟨#[]⟩, .slice none 0 0, .agg #[.int .i64 0, .int .i64 0]], []⟩ 8 (by kernel_rfl) (by kernel_rfl) (by kernel_rfl) (by kernel_rfl))
    Try.laidOut (by kernel_rfl) rfl rfl Try.underlying4 ?_ ?_
  · intro ds hl
    match ds, hl with
    | [d1, d2, d3], _ => exact ⟨rfl, rfl, rfl⟩
  · intro W base args ds p hval0 hA0 hlt hsz0
    have hval : ∀ (j : Nat) t v, Try.f8.params[j]? = some t → args[j]? = some v → Value.okWide Try.prog W .any base t v := hval0
    have hA : DataW.TrodAll enc Try.prog W 0 (fun _ => true) true Try.f8.params.toList args.toList ds p := hA0
    have hsz : (DataW.weightsEach Try.prog Try.f8.params.toList ds).all (· ≤ reachBytes) = true := hsz0
    rw [Try.params8] at hA hval hsz
    clear hA0 hval0 hsz0
    obtain ⟨v0, v1, v2, d0, d1, d2, p0, p1, p2, rfl, rfl, rfl, h0, h1, h2⟩ := trodAll_three hA
    have hlt0 : ∀ x ∈ p0, x.block < W.heap.size := fun x hx => hlt x (by simp [hx])
    have hlt1 : ∀ x ∈ p1, x.block < W.heap.size := fun x hx => hlt x (by simp [hx])
    have hlt2 : ∀ x ∈ p2, x.block < W.heap.size := fun x hx => hlt x (by simp [hx])
    obtain ⟨s, rfl, zs⟩ := open_str Try.underlying9 (hval 0 9 v0 rfl rfl) h0 (fun b hd => sized_string hsz (j := 0) rfl (by simp [hd]))
    obtain ⟨Aq, nq, cq, q, rfl, iq, zq, rq, wq⟩ := open_ints_at Try.underlying36 Try.underlying3 (by kernel_rfl) (by kernel_rfl) (hval 1 36 v1 rfl rfl) h1 hlt1 (fun el sp hd => sized_slice hsz (j := 1) rfl (by simp [hd]) Try.underlying36)
    obtain ⟨t0, t1, rfl, wt0, wt1⟩ := open_int_array2 Try.underlying42 Try.underlying3 (by kernel_rfl) (by kernel_rfl) (hval 2 42 v2 rfl rfl) h2
    exact own_walk s Aq nq cq q t0 t1 zs (fun x hx => bd_i64 (wq x hx)) (bd_i64 wt0) (bd_i64 wt1) W iq

/-- The statement. -/
theorem own_holds : Rows.DiskOwnSaid :=
  OpenClaim.holds_of_wide 8 Try.f8 rfl rfl rfl rfl rfl rfl rfl ⟨rfl, rfl, rfl, rfl, rfl⟩ rfl rfl rfl rfl rfl (by kernel_rfl) Try.func8 (by kernel_rfl)
    (of_decide_eq_true (by kernel_rfl)) (by unfold Func.isWrapper; first | (rw [if_pos (by decide +kernel)]; kernel_rfl) | (rw [if_neg (by decide +kernel)]; exact ⟨rfl, rfl⟩))
    (fun os started H enc _ => own_lifted os started H enc)
#print axioms own_holds
end Go.Proofs.Ythhcnfbolhoeaaa
