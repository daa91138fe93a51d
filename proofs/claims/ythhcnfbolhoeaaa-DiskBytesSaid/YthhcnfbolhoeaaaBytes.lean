/- DiskBytes. -/
import Derived.Test.YthhcnfbolhoeaaaOwn
import Derived.Test.YthhcnfbolhoeaaaP1
namespace Go.Proofs.Ythhcnfbolhoeaaa
open Go.ChangeShapes Go.WideShapes Go.ChangeAt Go.RowKit
set_option linter.unusedVariables false

theorem readL_all (c : Bytes) : readL c 0 (c.length : Int) = c := by
  unfold readL
  by_cases h : c.length = 0
  · rw [if_pos (by omega)]
    exact (List.eq_nil_of_length_eq_zero h).symm
  · rw [if_neg (by omega)]
    show (c.drop 0).take _ = c
    rw [List.drop_zero]
    exact List.take_of_length_le (by omega)
theorem bs_getD (s : ByteArray) (j : Nat) (h : j < s.size) : (bs s).getD j 0 = s[j] := by
  have hl : j < (bs s).length := by rw [bs_length]; exact h
  rw [List.getD_eq_getElem?_getD, List.getElem?_eq_getElem hl]
  rfl
theorem putL_nil (a : Bytes) : putL [] 0 a = a := by simp [putL]

set_option maxHeartbeats 1500000 in
set_option maxRecDepth 100000 in
theorem bytes_walk (s : ByteArray) (A : Option Addr) (m c : Nat) (q : List Int) (t0 t1 : Int) (hs : s.size ≤ 140737488351232) (hq : ∀ x ∈ q, -9223372036854775808 ≤ x ∧ x ≤ 9223372036854775807) (h0 : -9223372036854775808 ≤ t0 ∧ t0 ≤ 9223372036854775807) (h1 : -9223372036854775808 ≤ t1 ∧ t1 ≤ 9223372036854775807) (w : World) (hA : IntsAt w A m q) :
    Calls Try.prog 5 #[.string s, .agg #[.int .i64 t0, .int .i64 t1], .slice A m c] w fun e w' => e = .returned (.bool true) ∧ Below w.heap.size w w' := by
  have HA := Lib.hid hA; clear hA
  have HQ := Lib.hid hq; clear hq
  obtain ⟨k, hk⟩ : ∃ k : Nat, min s.size 200 = k := ⟨_, rfl⟩
  have hmin : ∀ w, (Builtin.min_ #[3, 3] 3 #[.int .i64 (s.size : Int), .int .i64 200]).run Try.prog w = .ok (.int .i64 (k : Int)) w := by
    intro w
    rw [run_min_int2]
    congr 2
    split <;> omega
  have hk1 : k ≤ s.size := by omega
  have hk2 : k ≤ 200 := by omega
  obtain ⟨x, hx⟩ : ∃ x, s.extract 0 k = x := ⟨_, rfl⟩
  have hxs : x.size = k := by rw [← hx, ByteArray.size_extract]; omega
  have hxb : x.size ≤ 200 := by omega
  have HX := Lib.hid hx; have HXS := Lib.hid hxs
  obtain ⟨a0, ha0⟩ : ∃ a0 : Nat, t0 % 250 = a0 := ⟨(t0 % 250).toNat, by omega⟩
  obtain ⟨a1, ha1⟩ : ∃ a1 : Nat, t1 % 200 = a1 := ⟨(t1 % 200).toNat, by omega⟩
  have hb0 : a0 < 250 := by omega
  have hb1 : a1 < 200 := by omega
  have M0 := fun w => Lib.hid (ha0 ▸ mod_any w t0 250 (by decide) (by decide) h0)
  have M1 := fun w => Lib.hid (ha1 ▸ mod_any w t1 200 (by decide) (by decide) h1)
  obtain ⟨nb, hnb⟩ : ∃ nb : Nat, 1 + a1 = nb := ⟨_, rfl⟩
  have hnbI : (1 : Int) + a1 = (nb : Int) := by omega
  have hnb2 : nb ≤ 200 := by omega
  -- the states
  have hxl : (bs x).length ≤ 200 := by rw [bs_length]; omega
  obtain ⟨d1, e1⟩ : ∃ d1, DS.new.write 0 (bs x) = d1 := ⟨_, rfl⟩
  have q1 : DS.new.doWrite 0 (bs x) = (0, d1) := by rw [doWrite_on (by decide) (by omega) rfl, ← e1]; rfl
  have c1 : d1.calls = 1 ∧ d1.off = false ∧ d1.parts.length ≤ 200 := by
    rw [← e1]
    exact ⟨rfl, rfl, Nat.le_trans (pieces_length _ _ _ (Nat.le_refl _)) hxl⟩
  obtain ⟨d2, e2⟩ : ∃ d2, d1.sync = d2 := ⟨_, rfl⟩
  have q2 : d1.doSync = (0, d2) := by rw [doSync_on c1.2.1, e2]
  have c2 : d2.calls = 2 ∧ d2.off = false ∧ d2.parts = [] ∧ d2.synced = bs x := by
    rw [← e2]
    refine ⟨?_, ?_, rfl, ?_⟩
    · show d1.calls + 1 = 2
      rw [c1.1]; rfl
    · rw [← e1]; rfl
    · rw [← e1]
      exact putL_nil (bs x)
  obtain ⟨d3, e3⟩ : ∃ d3, d2.write a0 (List.replicate nb 238) = d3 := ⟨_, rfl⟩
  have q3 : d2.doWrite (a0 : Int) (bs (sb (List.replicate nb 238))) = (0, d3) := by rw [doWrite_on (by omega) (by rw [bs_sb]; simp; omega) c2.2.1, ← e3]; rfl
  have c3 : d3.parts = pieces a0 (List.replicate nb 238) ∧ d3.synced = bs x := by
    rw [← e3]
    exact ⟨by show d2.parts ++ _ = _; rw [c2.2.2.1]; rfl, c2.2.2.2⟩
  have f3p : d3.parts.length ≤ 1000000000 := by
    rw [c3.1]
    have := pieces_length nb a0 (List.replicate nb 238) (by simp)
    simp at this
    omega
  obtain ⟨k1, e4⟩ : ∃ k1, d3.crash q = k1 := ⟨_, rfl⟩
  have hok : Okb (bs x) a0 nb 238 k1.now := by
    rw [← e4]
    show Okb _ _ _ _ (crashL q 0 d3.synced d3.parts)
    rw [c3.1, c3.2]
    exact crash_bytes q (bs x) a0 nb 238
  have f1 : d1.few 100000000 := ⟨by rw [c1.1]; decide, by omega⟩
  have f2 : d2.few 100000000 := ⟨by rw [c2.1]; decide, by rw [c2.2.2.1]; decide⟩
  obtain ⟨L, hL⟩ : ∃ L : Nat, k1.now.length = L := ⟨_, rfl⟩
  have hlo : x.size ≤ L := by rw [← hL, ← bs_length]; exact hok.lo
  have hhi : L ≤ max x.size (a0 + nb) := by rw [← hL, ← bs_length]; exact hok.hi
  obtain ⟨mx, hmx⟩ : ∃ mx : Nat, max x.size (a0 + nb) = mx := ⟨_, rfl⟩
  have hmax : ∀ w, (Builtin.max_ #[3, 3] 3 #[.int .i64 (x.size : Int), .int .i64 ((a0 : Int) + nb)]).run Try.prog w = .ok (.int .i64 (mx : Int)) w := by
    intro w
    rw [run_max_int2]
    congr 2
    split <;> omega
  have hmxb : mx ≤ 450 := by omega
  rw [hmx] at hhi
  have HOK := Lib.hid hok; have HL := Lib.hid hL
  have Q1 := Lib.hid q1; have Q2 := Lib.hid q2; have Q3 := Lib.hid q3; have E4 := Lib.hid e4
  clear q1 q2 q3 c1 c2 c3 e1 e2 e3 e4 hxl hok hL hmx hxs ha0 ha1 hnb hk
  have HMIN := Lib.hid hmin; have HMAX := Lib.hid hmax
  clear hmin hmax
  go_enter Try.func5, Try.ntmps5
  go_wp2_with fail
  obtain ⟨w0, hw0⟩ : ∃ w0, w.alloc (.cells #[.int .i64 t0, .int .i64 t1] 42) = w0 := ⟨_, rfl⟩
  rw [hw0]
  have hs0 : Since w.heap.size w w0 := by rw [← hw0]; exact Since.of ((Keep.refl _ w).alloc' _)
  have hz0 : w0.heap.size = w.heap.size + 1 := by rw [← hw0]; simp
  have hb : w0.heap[w.heap.size]? = some (.cells #[.int .i64 t0, .int .i64 t1] 42 (0, 0)) := by rw [← hw0]; exact heap_alloc_new _ _
  have hc0 : w0.cell? ⟨w.heap.size, 0, none⟩ = some (.int .i64 t0) := by rw [blk_cell hb]; rfl
  have hc1 : w0.cell? ⟨w.heap.size, 1, none⟩ = some (.int .i64 t1) := by rw [blk_cell hb]; rfl
  have hA0 : IntsAt w0 A m q := HA.out.keep (show Keep (fun _ => False) w w0 by rw [← hw0]; exact (Keep.refl _ w).alloc' _) (fun _ _ => id)
  have HA0 := Lib.hid hA0; have HC0 := Lib.hid hc0; have HC1 := Lib.hid hc1; have S0 := Lib.hid hs0; have HZ0 := Lib.hid hz0
  clear hA0 hc0 hc1 hs0 hz0 hb hw0 HA
  refine (sanity_any w0).mono ?_
  rintro e w1 ⟨rfl, hs1⟩
  have S1 := Lib.hid hs1; clear hs1
  go_wp2_with fail
  refine (new_D w1).mono ?_
  rintro e w2 ⟨rfl, hd2, hs2⟩
  have D2 := Lib.hid hd2; have S2 := Lib.hid (Keep.trans S1.out (Since.mono hs2 S1.out.size)); clear hd2 hs2
  have hmin := HMIN.out
  have hl0 := cell_since S2.out HC0.out (by have := HZ0.out; simp only; omega)
  have hl1 := cell_since S2.out HC1.out (by have := HZ0.out; simp only; omega)
  go_wp2_with fail
  clear hl0 hmin
  refine (M0 w2).out.mono ?_
  rintro e wx ⟨rfl, rfl⟩
  go_wp2_with fail
  clear hl1
  refine (M1 w2).out.mono ?_
  rintro e wx ⟨rfl, rfl⟩
  go_wp2_with fail
  refine (repeated_any w2 238 nb (by omega)).mono ?_
  rintro e w3 ⟨rfl, hs3⟩
  have D3 := Lib.hid (D2.out.since hs3 (Nat.le_refl _)); have S3 := Lib.hid (Keep.trans S2.out (Since.mono hs3 S2.out.size)); clear hs3
  go_wp2_with fail
  refine (write_D D3.out 0 x (by decide) (by omega) few_now.1 Q1.out).mono ?_
  rintro e w4 ⟨rfl, hd4, hs4⟩
  have D4 := Lib.hid hd4; have S4 := Lib.hid (Keep.trans S3.out (Since.mono hs4 S1.out.size)); clear hd4 hs4
  go_wp2_with fail
  refine (sync_D D4.out f1 Q2.out).mono ?_
  rintro e w5 ⟨rfl, hd5, hs5⟩
  have D5 := Lib.hid hd5; have S5 := Lib.hid (Keep.trans S4.out (Since.mono hs5 S1.out.size)); clear hd5 hs5
  go_wp2_with fail
  refine (write_D D5.out (a0 : Int) (sb (List.replicate nb 238)) (by omega) (by rw [sb_size]; simp; omega) f2 Q3.out).mono ?_
  rintro e w6 ⟨rfl, hd6, hs6⟩
  have D6 := Lib.hid hd6; have S6 := Lib.hid (Keep.trans S5.out (Since.mono hs6 S1.out.size)); clear hd6 hs6
  go_wp2_with fail
  refine (crash_D D6.out A m c q (ints_since HA0.out S6.out (Nat.le_refl _)) HQ.out f3p).mono ?_
  rintro e w7 ⟨rfl, hd7, hs7⟩
  rw [E4.out] at hd7
  have K7 := Lib.hid hd7; have S7 := Lib.hid (Keep.trans S6.out (Since.mono hs7 S6.out.size)); clear hd7 hs7
  have hrs : (sb (List.replicate nb (238 : UInt8))).size = nb := by rw [sb_size, List.length_replicate]
  have hmax := HMAX.out
  have b1 : decide ((L : Int) < x.size) = false := by simp; omega
  have b1' : decide (L < x.size) = false := by simp; omega
  have b2 : decide ((mx : Int) < L) = false := by simp; omega
  have b2' : decide (mx < L) = false := by simp; omega
  go_wp2_with fail
  refine (size_D K7.out).mono ?_
  rintro e wx ⟨rfl, rfl⟩
  rw [HL.out]
  go_wp2_with fail
  refine (size_D K7.out).mono ?_
  rintro e wx ⟨rfl, rfl⟩
  rw [HL.out]
  go_wp2_with fail
  refine (size_D K7.out).mono ?_
  rintro e wx ⟨rfl, rfl⟩
  rw [HL.out]
  go_wp2_with fail
  refine (read_S (l := k1.now) K7.out 0 (L : Int) (by decide) (by omega) (by rw [← HL.out]; exact readL_all _)).mono ?_
  rintro e w8 ⟨rfl, hs8⟩
  have K8 := Lib.hid (K7.out.since hs8 (Nat.le_refl _)); have S8 := Lib.hid (Keep.trans S7.out (Since.mono hs8 S7.out.size)); clear hs8
  obtain ⟨g, hg⟩ : ∃ g, sb k1.now = g := ⟨_, rfl⟩
  have hgs : g.size = L := by rw [← hg, sb_size, HL.out]
  have hgn : ∀ i, (bs g).getD i 0 = k1.now.getD i 0 := fun i => by rw [← hg, bs_sb]
  rw [hg]
  have HGN := Lib.hid hgn
  clear hg hgn hmax b1 b1' b2 b2'
  go_wp2_with fail
  refine (size_D K8.out).mono ?_
  rintro e wx ⟨rfl, rfl⟩
  rw [HL.out]
  go_wp2_with fail
  go_loopw [17] (fun i wr => ∃ j : Nat, j ≤ L ∧ i = .int .i64 (j : Int) ∧ Hid (Since w0.heap.size w0 wr)) (fun i _ => L - (intOf i).toNat)
  case atStart => exact ⟨0, Nat.zero_le _, rfl, S8⟩
  case round =>
    obtain ⟨j, hj, rfl, HS⟩ := hrel
    obtain ⟨wo, rfl⟩ : ∃ wo : World, wo = wr := ⟨_, rfl⟩
    by_cases hlt : j < L
    · have hjx : j < g.size := by omega
      have hat := HOK.out.at_ j (by rw [HL.out]; exact hlt)
      rw [← HGN.out, bs_getD g j hjx, bs_length] at hat
      have hi0 : Hid (Since w0.heap.size w0 wo.drew) := Lib.hid (Keep.trans HS.out (keep_draw _ wo))
      by_cases hx1 : j < x.size
      · rw [bs_getD x j hx1] at hat
        have key : (g[j].toNat : Int) = x[j].toNat ∨ (a0 ≤ j ∧ j < a0 + nb ∧ (g[j].toNat : Int) = 238) := by
          rcases hat with ⟨_, h⟩ | ⟨h2, h3, h⟩ | ⟨h2, _⟩
          · exact .inl (by rw [h])
          · exact .inr ⟨h2, h3, by rw [h]; rfl⟩
          · omega
        have KEY := Lib.hid key
        clear hat key
        have c1 : decide (j < x.size) = true := by simpa using hx1
        go_wp2_with fail
        go_region
        all_goals go_wp2_with fail
        all_goals first
          | exact ⟨⟨j + 1, by omega, by go_num, hi0⟩, by simp [intOf]; omega⟩
          | (exfalso; have := KEY.out; omega)
      · have key : (a0 ≤ j ∧ j < a0 + nb ∧ (g[j].toNat : Int) = 238) ∨ ((g[j].toNat : Int) = 0 ∧ g[j] = 0 ∧ g[j].toNat = 0) := by
          rcases hat with ⟨h2, _⟩ | ⟨h2, h3, h⟩ | ⟨h2, h⟩
          · omega
          · exact .inl ⟨h2, h3, by rw [h]; rfl⟩
          · exact .inr ⟨by rw [h]; rfl, h, by rw [h]; rfl⟩
        have KEY := Lib.hid key
        clear hat key
        have c1 : decide (j < x.size) = false := by simpa using hx1
        go_wp2_with fail
        go_region
        all_goals go_wp2_with fail
        all_goals first
          | exact ⟨⟨j + 1, by omega, by go_num, hi0⟩, by simp [intOf]; omega⟩
          | (exfalso; rcases KEY.out with h | ⟨h, h', h''⟩ <;> first | omega | contradiction | (rename_i hh; simp [h] at hh) | (rename_i hh _; simp [h] at hh) | (rename_i hh _ _; simp [h] at hh) | simp_all)
    · obtain rfl : j = L := by omega
      go_wp2_with fail
      go_ret
      exact ⟨rfl, below_since (Keep.trans S0.out (Since.mono HS.out S0.out.size)) rfl⟩
set_option maxRecDepth 100000 in
theorem bytes_lifted (os : Os) (started : os.Started) (H : Type) (enc : TypeId × Value → H) :
    ReturnsInHanded {} Try.checked os 5 .any (Rows.diskBytesSpec.pre6 enc Try.prog Try.f5 Rows.diskBytesRow.domain false) (Rows.diskBytesSpec.post enc Try.prog Try.f5 false true false false) := by
  refine law_lift (C := Try.checked) Try.own started (by kernel_rfl) Try.func5
    (ChangeSpec.witness6 (enc := enc) (C := Try.checked) false ⟨#[], #[.string ⟨#[]⟩, .agg #[.int .i64 0, .int .i64 0], .slice none 0 0], []⟩ 8 (by kernel_rfl) (by kernel_rfl) (by kernel_rfl) (by kernel_rfl))
    Try.laidOut (by kernel_rfl) rfl rfl Try.underlying4 ?_ ?_
  · intro ds hl
    match ds, hl with
    | [d1, d2, d3], _ => exact ⟨rfl, rfl, rfl⟩
  · intro W base args ds p hval0 hA0 hlt hsz0
    have hval : ∀ (j : Nat) t v, Try.f5.params[j]? = some t → args[j]? = some v → Value.okWide Try.prog W .any base t v := hval0
    have hA : DataW.TrodAll enc Try.prog W 0 (fun _ => true) true Try.f5.params.toList args.toList ds p := hA0
    have hsz : (DataW.weightsEach Try.prog Try.f5.params.toList ds).all (· ≤ reachBytes) = true := hsz0
    rw [Try.params5] at hA hval hsz
    clear hA0 hval0 hsz0
    obtain ⟨v0, v1, v2, d0, d1, d2, p0, p1, p2, rfl, rfl, rfl, h0, h1, h2⟩ := trodAll_three hA
    have hlt0 : ∀ x ∈ p0, x.block < W.heap.size := fun x hx => hlt x (by simp [hx])
    have hlt1 : ∀ x ∈ p1, x.block < W.heap.size := fun x hx => hlt x (by simp [hx])
    have hlt2 : ∀ x ∈ p2, x.block < W.heap.size := fun x hx => hlt x (by simp [hx])
    obtain ⟨s, rfl, zs⟩ := open_str Try.underlying9 (hval 0 9 v0 rfl rfl) h0 (fun b hd => sized_string hsz (j := 0) rfl (by simp [hd]))
    obtain ⟨t0, t1, rfl, wt0, wt1⟩ := open_int_array2 Try.underlying42 Try.underlying3 (by kernel_rfl) (by kernel_rfl) (hval 1 42 v1 rfl rfl) h1
    obtain ⟨Aq, nq, cq, q, rfl, iq, zq, rq, wq⟩ := open_ints_at Try.underlying36 Try.underlying3 (by kernel_rfl) (by kernel_rfl) (hval 2 36 v2 rfl rfl) h2 hlt2 (fun el sp hd => sized_slice hsz (j := 2) rfl (by simp [hd]) Try.underlying36)
    exact bytes_walk s Aq nq cq q t0 t1 zs (fun x hx => bd_i64 (wq x hx)) (bd_i64 wt0) (bd_i64 wt1) W iq

/-- The statement. -/
theorem bytes_holds : Rows.DiskBytesSaid :=
  OpenClaim.holds_of_wide 5 Try.f5 rfl rfl rfl rfl rfl rfl rfl ⟨rfl, rfl, rfl, rfl, rfl⟩ rfl rfl rfl rfl rfl (by kernel_rfl) Try.func5 (by kernel_rfl)
    (of_decide_eq_true (by kernel_rfl)) (by unfold Func.isWrapper; first | (rw [if_pos (by decide +kernel)]; kernel_rfl) | (rw [if_neg (by decide +kernel)]; exact ⟨rfl, rfl⟩))
    (fun os started H enc _ => bytes_lifted os started H enc)
#print axioms bytes_holds
end Go.Proofs.Ythhcnfbolhoeaaa
