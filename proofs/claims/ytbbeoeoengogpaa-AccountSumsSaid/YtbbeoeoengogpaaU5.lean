/- facsimileref04.Made: the walk. -/
import Derived.Test.YtbbeoeoengogpaaU4
import Derived.Test.YtbbeoeoengogpaaU3
import Derived.StillTailTactics
namespace Go.Proofs.Ytbbeoeoengogpaa
open Go.RowKit
set_option linter.unusedVariables false

set_option maxRecDepth 100000 in
set_option maxHeartbeats 8000000 in
theorem made_any {w : World} {AL : Option Addr} {nl cl : Nat} {xs : List Int} (hA : IntsAt w AL nl xs) (hn : nl ≤ 140737488351232) :
    Calls Try.prog 22 #[.slice AL nl cl] w fun e w' => ∃ (A : Option Addr) (n c : Nat) (es : List Ent) (i : Int), e = .returned (.tuple #[.slice A n c, .int .i64 i]) ∧ w'.ownsRow w.heap.size 56 7 (.slice A n c) n (entc es) ∧ n ≤ 8 ∧ (n = 0 → A = none) ∧ (∀ e ∈ es, e.IL ≤ 3) ∧ Since w.heap.size w w' := by
  have HA := Lib.hid hA
  have HB := Lib.hid (show 0 < nl → ∀ b, AL = some b → b.block < w.heap.size from fun h b e => by
    obtain ⟨b', off, e', hl, _⟩ := hA.2.2 h
    rw [e] at e'
    injection e' with e'
    rw [e']
    exact hl)
  obtain ⟨n0, hn0⟩ : ∃ n0, w.heap.size = n0 := ⟨_, rfl⟩
  clear hA
  go_enter Try.func22, Try.ntmps22
  go_wp2_with fail
  have hka := (Keep.refl (fun _ => False) w).alloc' (.cells #[.slice AL nl cl, .int .i64 0] 71)
  have M0 := Lib.hid (show MV n0 w n0 (.slice none 0 0) 0 [] (w.alloc (.cells #[.slice AL nl cl, .int .i64 0] 71)) from
    ⟨⟨AL, nl, cl, xs, 0, by rw [← hn0]; exact heap_alloc_new _ _, Nat.zero_le _, hn, HA.out.keep hka (fun _ _ => id), fun h b e => by rw [← hn0]; exact HB.out h b e, Nat.le_refl _⟩, World.ownsRow_nil _ _ _ _, by simp, Since.of hka⟩)
  obtain ⟨W0, hW⟩ : ∃ W0, w.alloc (.cells #[.slice AL nl cl, .int .i64 0] 71) = W0 := ⟨_, rfl⟩
  rw [hW] at M0
  rw [hW]
  have HN0 := Lib.hid hn0
  clear hW hka hn0
  ((with_reducible refine (next_any M0.out.nu 9 (by omega)).mono ?_); rintro e w1 ⟨rN, rfl, hr, hN1, hk1⟩)
  have M1 := Lib.hid (M0.out.next hN1 hk1)
  obtain ⟨N, rfl⟩ := Int.eq_ofNat_of_zero_le hr.1
  have hN8 : N ≤ 8 := by omega
  obtain ⟨i0, hi, hz0, hz1, hz2⟩ := info_parts (show (Try.prog.info? 56).map (fun i => (i.zero, i.size, i.bytes)) = some (some (.agg #[.int .i64 0, .int .i64 0, .int .i64 0, .int .i64 0, .int .i64 0, .slice none 0 0, .slice none 0 0]), 7, 88) by kernel_rfl)
  have HI := Lib.hid hi
  have HZ0 := Lib.hid hz0
  have HZ1 := Lib.hid hz1
  have HZ2 := Lib.hid hz2
  clear hi hz0 hz1 hz2 hN1 hk1 M0 hr
  go_wp2_with fail
  go_loopw [6, 7, 8] (fun v d i wr => ∃ k : Nat, k ≤ N ∧ i = .int .i64 (k : Int) ∧ ∃ (A : Option Addr) (c : Nat) (es : List Ent) (dv : Int), v = .slice A k c ∧ (k = 0 → A = none) ∧ d = .int .i64 dv ∧ (0 ≤ dv ∧ dv ≤ 2 * k) ∧ Hid (MV n0 w n0 (.slice A k c) k es wr)) (fun _ _ i _ => N + 1 - (intOf i).toNat)
  case atStart => exact ⟨0, Nat.zero_le _, rfl, _, _, _, _, rfl, fun _ => rfl, rfl, by omega, M1⟩
  case round =>
    obtain ⟨k, hk, rfl, A, c, es, dv, rfl, hnil, rfl, hdv, MM⟩ := hrel
    have HNL := Lib.hid hnil
    clear hnil
    obtain ⟨wo, rfl⟩ : ∃ wo : World, wo = wr := ⟨_, rfl⟩
    clear M1
    by_cases hlt : k < N
    · have hb : decide (k < N) = true := by simpa using hlt
      go_wp2_with fail
      ((with_reducible refine (next_any MM.out.nu 2 (by omega)).mono ?_); rintro e w2 ⟨r, rfl, hr, hN2, hk2⟩)
      have M2 := Lib.hid (MM.out.next hN2 hk2)
      clear hN2 hk2
      go_wp2_with fail
      ((with_reducible refine (cell_any M2.out.nu (N : Int) (by omega)).mono ?_); rintro e w3 ⟨kd, cc, fn, tn, NA, NL, NC, IA, IL, IC, rfl, hIL, hIT, hN3, hk3⟩)
      have M3 := Lib.hid (M2.out.next hN3 hk3)
      have EK := Lib.hid (show EntOK n0 w3 ⟨dv + r, kd, cc, fn, tn, NA, NL, NC, IA, IL, IC⟩ from ⟨by simp only; omega, hIL, hIT⟩)
      clear hN3 hk3 M2 hIL hIT
      have hbase : n0 ≤ w3.heap.size := by have := M3.out.since.size; have := HN0.out; omega
      go_wp2_with (at_builtin; refine wpList_append_lies _ rfl _ _ _ rfl n0 56 i0 _ 7 88 Try.underlying47 HI.out HZ0.out HZ1.out HZ2.out rfl (by decide) _ k (entc es) rfl (M3.out.own.alloc _) ⟨w3.heap.size, 0, none⟩ 1 1 [.int .i64 (dv + r), .int .i64 kd, .int .i64 cc, .int .i64 fn, .int .i64 tn, .slice NA NL NC, .slice IA IL IC] rfl rfl (by exact World.news_of_block (cs := #[.int .i64 (dv + r), .int .i64 kd, .int .i64 cc, .int .i64 fn, .int .i64 tn, .slice NA NL NC, .slice IA IL IC]) (t := 56) (fr := (0, 0)) (by exact heap_alloc_new _ _)) (by simp [Value.oneCell']) (by omega) (by unfold maxLen; omega) (by omega) (by simp; omega) _ rfl ?_; intro g cap w1 hown hgrow hat hlt; have MG := Lib.hid (M3.out.grow EK.out (app_keep hgrow) hown); clear hown hgrow hat)
      exact ⟨⟨k + 1, by omega, by go_num, _, _, _, _, rfl, fun e => absurd e (by omega), rfl, by omega, MG⟩, by simp [intOf]; omega⟩
    · have hkN : N = k := by omega
      subst hkN
      have hb : decide (N < N) = false := by simp
      clear hlt
      go_wp2_with fail
      have HNQ := HNL
      clear HNL
      go_loopw [9] (fun i wr => ∃ q : Nat, q ≤ N ∧ i = .int .i64 (q : Int) ∧ Hid (MV n0 w n0 (.slice A N c) N es wr)) (fun i _ => N + 1 - (intOf i).toNat)
      case atStart => exact ⟨0, Nat.zero_le _, rfl, MM⟩
      case round =>
        obtain ⟨q, hq, rfl, MQ⟩ := hrel
        obtain ⟨wq, rfl⟩ : ∃ wq : World, wq = wr := ⟨_, rfl⟩
        clear MM
        by_cases hqN : q < N
        · have hb2 : decide (q < N) = true := by simpa using hqN
          go_wp2_with fail
          obtain ⟨IL, hIL⟩ : ∃ IL, (es.getD q Ent.dflt).IL = IL := ⟨_, rfl⟩
          have HIL := Lib.hid hIL
          clear hIL
          go_loopw [10] (fun i wr => ∃ r : Nat, r ≤ IL ∧ i = .int .i64 (r : Int) ∧ Hid (MV n0 w n0 (.slice A N c) N es wr)) (fun i _ => IL + 1 - (intOf i).toNat)
          case atStart => exact ⟨0, Nat.zero_le _, rfl, MQ⟩
          case round =>
            obtain ⟨r, hr, rfl, MR⟩ := hrel
            obtain ⟨wx, rfl⟩ : ∃ wx : World, wx = wr := ⟨_, rfl⟩
            clear MQ
            obtain ⟨g, rfl, hc, hok, hid⟩ := MR.out.at_ hqN
            have c6 := hc q 6 hqN (by omega)
            have hcell : (es.getD q Ent.dflt).cells.getD 6 undef = .slice (es.getD q Ent.dflt).IA (es.getD q Ent.dflt).IL (es.getD q Ent.dflt).IC := rfl
            rw [hcell, HIL.out] at c6
            have hit := hok.items
            have HL3 := Lib.hid (show IL ≤ 3 from HIL.out ▸ hok.il)
            rw [HIL.out] at hit
            obtain ⟨IA, hIA⟩ : ∃ IA, (es.getD q Ent.dflt).IA = IA := ⟨_, rfl⟩
            obtain ⟨IC, hIC⟩ : ∃ IC, (es.getD q Ent.dflt).IC = IC := ⟨_, rfl⟩
            rw [hIA, hIC] at c6
            rw [hIA] at hit
            have HC := Lib.hid hc
            have HID := Lib.hid hid
            clear hc hok hid hcell hIA hIC
            by_cases hrl : r < IL
            · obtain ⟨b, cs, a, z, s, rfl, hb5, hbn, x0, x1, x2, haz⟩ := hit.at_ hrl
              have hb3 : decide (r < IL) = true := by simpa using hrl
              have hka := (Keep.refl (fun _ => False) wx).alloc' (.cells #[.int .i64 a, .int .i64 z, .string s] 75)
              have MA := Lib.hid (MR.out.quiet (Keep.trans hka (keep_draw _ _)))
              have MA0 := Lib.hid (MR.out.quiet hka)
              by_cases ha : a = 5
              · subst ha
                have hz0 := haz rfl
                have hr1 : 0 ≤ z.tmod (N : Int) := Int.tmod_nonneg _ hz0
                have hr2 : z.tmod (N : Int) < N := Int.tmod_lt_of_pos _ (by omega)
                obtain ⟨ix, hix⟩ := Int.eq_ofNat_of_zero_le hr1
                have hixN : ix < N := by omega
                have hix0 := HC.out ix 0 hixN (by omega)
                have hcell : (es.getD ix Ent.dflt).cells.getD 0 undef = .int .i64 (es.getD ix Ent.dflt).id := rfl
                rw [hcell, Nat.add_zero] at hix0
                have hide := HID.out ix hixN
                obtain ⟨di, hdi⟩ : ∃ di, (es.getD ix Ent.dflt).id = di := ⟨_, rfl⟩
                rw [hdi] at hix0 hide
                have hNz : ((N : Int) == 0) = false := by simp; omega
                have hNz' : ¬ N = 0 := by omega
                clear hcell hdi haz hr1 hr2 hit
                go_wp2_with fail
                have hkd := Keep.trans hka (keep_draw (fun _ => False) (wx.alloc (.cells #[.int .i64 5, .int .i64 z, .string s] 75)))
                have hnew := heap_alloc_new wx (.cells #[.int .i64 5, .int .i64 z, .string s] 75)
                obtain ⟨B, hB⟩ : ∃ B, wx.heap.size = B := ⟨_, rfl⟩
                obtain ⟨wv, hwv⟩ : ∃ wv, wx.alloc (.cells #[.int .i64 5, .int .i64 z, .string s] 75) = wv := ⟨_, rfl⟩
                rw [hwv] at hkd MA MA0 hka
                rw [hwv, hB] at hnew
                rw [hwv, hB]
                have j6 : wv.cell? ⟨g, q * 7 + 6, none⟩ = _ := cell_kept hka c6 id
                have jix : wv.cell? ⟨g, ix * 7, none⟩ = _ := cell_kept hka hix0 id
                have j1 : wv.cell? ⟨B, 1, none⟩ = some (.int .i64 z) := blk_cell (w := wv) hnew 1
                have k6 : wv.drew.cell? ⟨g, q * 7 + 6, none⟩ = _ := cell_kept hkd c6 id
                have kix : wv.drew.cell? ⟨g, ix * 7, none⟩ = _ := cell_kept hkd hix0 id
                have k1 : wv.drew.cell? ⟨B, 1, none⟩ = some (.int .i64 z) := blk_cell (w := wv.drew) hnew 1
                have kb : wv.drew.heap[b]? = _ := (hkd.block b (blk_lt hb5) id).trans hb5
                have ks : wv.drew.cell? ⟨b, r * 3 + 1, none⟩ = _ := cell_kept hkd x1 id
                have kf := blk_free kb (r * 3 + 1)
                have MF := Lib.hid (MA.out.fix (r := r) kb hbn hide)
                have hIL3 : IL ≤ 3 := HL3.out
                clear hkd hnew hwv hB c6 hix0 x0 x1 x2 hb5 kb hka
                go_still_tail 18, (by kernel_rfl)
                change wpList _ _ _ _ _ wv.drew
                clear j6 jix j1
                go_wp2_with fail
                go_roundw
                case rel => exact ⟨r + 1, by omega, by go_num, MF⟩
                case measure => simp [intOf]; omega
              · have hb4 : (a == 5) = false := by simpa using ha
                have hIL3 : IL ≤ 3 := HL3.out
                clear hit
                go_wp2_with fail
                exact ⟨⟨r + 1, by omega, by go_num, MA0⟩, by simp [intOf]; omega⟩
            · have hb3 : decide (r < IL) = false := by simpa using hrl
              clear hit
              go_wp2_with fail
              exact ⟨⟨q + 1, by omega, by go_num, MR⟩, by simp [intOf]; omega⟩
        · have hb2 : decide (q < N) = false := by simpa using hqN
          go_wp2_with fail
          ((with_reducible refine (next_any MQ.out.nu 2 (by omega)).mono ?_); rintro e w9 ⟨r9, rfl, hr9, hN9, hk9⟩)
          have M9 := Lib.hid (MQ.out.next hN9 hk9)
          clear hN9 hk9
          go_wp2_with fail
          go_ret2
          exact ⟨_, _, _, es, _, rfl, by rw [HN0.out]; exact M9.out.own, hN8, HNQ.out, fun e he => (M9.out.ok e he).il, by rw [HN0.out]; exact M9.out.since⟩
end Go.Proofs.Ytbbeoeoengogpaa
