/- do: a crash. -/
import Derived.Test.YthhcnfbolhoeaaaR8
import Derived.Deep.RegionWith
namespace Go.Proofs.Ythhcnfbolhoeaaa
open Go.RowKit
set_option linter.unusedVariables false

set_option maxHeartbeats 4000000 in
set_option maxRecDepth 100000 in
theorem do_crash {n : Nat} {w : World} {q : Nat} {r : Rep} {ρ : RRep} {d : DS} (h : Desk n w q r ρ d) (hf : d.few 100000000) (a : Act') (ha : a.Ok) (hk : a.kind % 8 = 7) :
    Calls Try.prog 16 #[.pointer (some ⟨q, 0, none⟩), .agg #[.int .i64 a.kind, .int .i64 a.off, .int .i64 a.n, .string a.text]] w fun e w' => e = .returned (.bool true) ∧ DK n w' q (d.crash (survL a.n)) ∧ Since n w w' := by
  have ha' := ha
  have hx : ∃ X, X = d.crash (survL a.n) := ⟨_, rfl⟩
  obtain ⟨X, hX⟩ := hx
  rw [← hX]
  obtain ⟨kd, off, nn, text⟩ := a
  have hkd := ha.kind
  have hnn := ha.n
  simp only [i64In] at hkd hnn hk
  have M := fun w => Lib.hid (hk ▸ mod_any w kd 8 (by decide) (by decide) hkd)
  have hs0 : Keep (fun _ => False) w (w.alloc (.cells #[.int .i64 kd, .int .i64 off, .int .i64 nn, .string text] 33)) := (Keep.refl _ w).alloc' _
  have hd0 := h.quiet hs0
  have hblt : ∀ k, w.heap.size = k → ¬ r.foot k ∧ ¬ ρ.foot k ∧ k ≠ q := by
    rintro k rfl
    exact ⟨fun e => Nat.lt_irrefl _ (h.disk.foot_lt _ e), fun e => Nat.lt_irrefl _ (h.ref.foot_lt _ e), fun e => by have := blk_lt h.blk; omega⟩
  have hbx := hblt _ rfl
  have ha0 : (w.alloc (.cells #[.int .i64 kd, .int .i64 off, .int .i64 nn, .string text] 33)).heap[w.heap.size]? = some (.cells #[.int .i64 kd, .int .i64 off, .int .i64 nn, .string text] 33 (0, 0)) := heap_alloc_new _ _
  have H := Lib.hid h
  have HF := Lib.hid hf
  have HX := Lib.hid hX
  have HBX := Lib.hid hbx
  have HA := Lib.hid ha'
  clear hk ha h hf hblt hbx hX ha'
  go_enter Try.func16, Try.ntmps16
  go_wp2_with fail
  refine (M _).out.mono ?_
  rintro e wx ⟨rfl, rfl⟩
  obtain ⟨wa, hwa⟩ : ∃ wa, w.alloc (.cells #[.int .i64 kd, .int .i64 off, .int .i64 nn, .string text] 33) = wa := ⟨_, rfl⟩
  rw [hwa] at hs0 hd0 ha0 ⊢
  have HD := Lib.hid hd0
  have HS := Lib.hid hs0
  have KC := Lib.hid hd0.cells
  have KA := Lib.hid (act_cells ha0)
  clear hwa hs0 hd0 ha0
  have hnw : w.heap.size ≤ wa.heap.size := HS.out.size
  obtain ⟨kc0, kc1⟩ := KC.out
  obtain ⟨_, _, ka2, _⟩ := KA.out
  have K := Lib.hid (keep_draw (fun _ => False) wa)
  have hqlt : q < wa.heap.size := blk_lt HD.out.blk
  have HB0 := Lib.hid HD.out.blk
  go_wp2_with fail
  go_region_with (first
    | (go_at_call 25; refine (survive_any _ nn hnn).mono ?_; rintro e w1 ⟨A, m, c, rfl, hints, hk1⟩; replace K := Lib.hid (Keep.trans K.out hk1); have HI := Lib.hid hints; have kc0' := cell_keep K.out kc0 id; clear hints hk1)
    | (go_at_call 23; refine (crash_disk (HD.out.disk.keep K.out (fun _ _ => id)) _ _ _ _ HI.out (survL_in hnn) (by have := HF.out.2; omega)).mono ?_; rintro e w2 ⟨rfl, r', hp', hd', hk2, hf'⟩; have HR := Lib.hid (And.intro hp' (And.intro hd' hf')); have K1 := Lib.hid K.out; have K2 := Lib.hid (Keep.trans K.out hk2); have kc0'' := cell_keep K2.out kc0 id; have kf0 := (keep_frozen K2.out (a := ⟨q, 0, none⟩) hqlt id).trans (blk_free HB0.out 0); clear hp' hd' hk2 hf'))
  all_goals (
    obtain ⟨w3, hw3, B3, R3, D3, K3⟩ : ∃ w3, w2.setCell ⟨q, 0, none⟩ (.pointer (some ⟨w1.heap.size, 0, none⟩)) = w3 ∧ Hid (w3.heap[q]? = some (.cells #[.pointer (some ⟨w1.heap.size, 0, none⟩), .pointer (some ⟨ρ.p, 0, none⟩)] 30 (0, 0))) ∧ Hid (IsRef w3 ρ d) ∧ Hid (IsDisk w3 r' (d.crash (survL nn))) ∧ Hid (Keep (fun k => k = q) wa w3) := by
      have hs1 := K1.out.size
      refine ⟨_, rfl, Lib.hid ?_, Lib.hid ?_, Lib.hid ?_, Lib.hid ?_⟩
      · have h1 := (K2.out.block q hqlt id).trans HB0.out
        exact blk_set h1 0 _
      · exact (HD.out.ref.keep K2.out (fun _ _ => id)).keep (keep_set (Keep.refl _ _) _ _) (fun k hk e => HD.out.q2 (e ▸ hk))
      · exact HR.out.2.1.keep (keep_set (Keep.refl _ _) _ _) (fun k hk e => by have := HR.out.2.2 k hk; omega)
      · exact Keep.then (Keep.mono K2.out (fun _ => False.elim)) (keep_set (Keep.refl _ _) _ _) (fun i hi => .inl hi)
    rw [hw3]
    clear hw3 kc0 kc0' kc0'' kf0 K
    have kc1' : w3.cell? ⟨q, 1, none⟩ = some (.pointer (some ⟨ρ.p, 0, none⟩)) := by rw [blk_cell B3.out]; rfl
    have kc0x : w3.cell? ⟨q, 0, none⟩ = some (.pointer (some ⟨w1.heap.size, 0, none⟩)) := by rw [blk_cell B3.out]; rfl
    have ka2' : w3.cell? ⟨w.heap.size, 2, none⟩ = some (.int .i64 nn) := cell_keep K3.out ka2 HBX.out.2.2
    have hqlt3 : q < w3.heap.size := Nat.lt_of_lt_of_le hqlt K3.out.size
    have K := Lib.hid (keep_draw (fun _ => False) w3)
    clear kc1 ka2
    go_wp2_with fail
    go_region_with (first
      | (go_at_call 25; refine (survive_any _ nn hnn).mono ?_; rintro e w4 ⟨A2, m2, c2, rfl, hints2, hk2⟩; replace K := Lib.hid (Keep.trans K.out hk2); have HI2 := Lib.hid hints2; have kc1'' := cell_keep K.out kc1' id; clear hints2 hk2)
      | (go_at_call 24; refine (rcrash (R3.out.keep K.out (fun _ _ => id)) _ _ _ _ HI2.out (survL_in hnn) (by have := HF.out.2; omega)).mono ?_; rintro e w5 ⟨p5, rfl, hp5, hr5, hk5⟩; have HR5 := Lib.hid (And.intro hp5 hr5); have K4 := Lib.hid K.out; have K5 := Lib.hid (Keep.trans K.out hk5); have kc1x := cell_keep K5.out kc1' id; have kf1 := (keep_frozen K5.out (a := ⟨q, 1, none⟩) hqlt3 id).trans (blk_free B3.out 1); clear hp5 hr5 hk5))
    all_goals (
      obtain ⟨w6, hw6, B6, R6, D6, K6⟩ : ∃ w6, w5.setCell ⟨q, 1, none⟩ (.pointer (some ⟨p5, 0, none⟩)) = w6 ∧ Hid (w6.heap[q]? = some (.cells #[.pointer (some ⟨w1.heap.size, 0, none⟩), .pointer (some ⟨p5, 0, none⟩)] 30 (0, 0))) ∧ Hid (IsRef w6 ⟨p5, .slice none 0 0, 0⟩ (d.crash (survL nn))) ∧ Hid (IsDisk w6 r' (d.crash (survL nn))) ∧ Hid (Keep (fun k => k = q) w3 w6) := by
        have hs4 := K4.out.size
        refine ⟨_, rfl, Lib.hid ?_, Lib.hid ?_, Lib.hid ?_, Lib.hid ?_⟩
        · have h1 := (K5.out.block q hqlt3 id).trans B3.out
          exact blk_set h1 1 _
        · refine HR5.out.2.keep (keep_set (Keep.refl _ _) _ _) (fun k hk e => ?_)
          have := HR5.out.1
          rcases hk with hk | hk
          · have h9 : k = p5 := hk
            omega
          · simp [Value.ownBlock] at hk
        · exact (D3.out.keep K5.out (fun _ _ => id)).keep (keep_set (Keep.refl _ _) _ _) (fun k hk e => by have := HR.out.2.2 k hk; have := K1.out.size; omega)
        · exact Keep.then (Keep.mono K5.out (fun _ => False.elim)) (keep_set (Keep.refl _ _) _ _) (fun i hi => .inl hi)
      rw [hw6]
      clear hw6 kc1' kc1'' kc1x kf1 kc0x
      have kc0y : w6.cell? ⟨q, 0, none⟩ = some (.pointer (some ⟨w1.heap.size, 0, none⟩)) := by rw [blk_cell B6.out]; rfl
      go_wp2_with fail
      go_ret
      have hqn : n ≤ q := HD.out.low.1
      refine ⟨rfl, HX.out ▸ ⟨r', ⟨p5, .slice none 0 0, 0⟩, ⟨?_, D6.out, R6.out, ?_, ?_, ?_, hqn, ?_, ?_⟩⟩, Keep.trans (Since.of HS.out) (Keep.mono (Keep.trans K3.out K6.out) (fun k e => by omega))⟩
      · rw [HR.out.1]; exact B6.out
      · intro k hk hk'
        have h1 := D3.out.foot_lt k hk
        have h2 := HR5.out.1
        have h3 := K4.out.size
        rcases hk' with hk' | hk'
        · have h9 : k = p5 := hk'
          omega
        · simp [Value.ownBlock] at hk'
      · intro hk
        have := HR.out.2.2 q hk
        have := K1.out.size
        omega
      · intro hk
        have h2 := HR5.out.1
        have h3 := K4.out.size
        rcases hk with hk | hk
        · have h9 : q = p5 := hk
          omega
        · simp [Value.ownBlock] at hk
      · intro k hk
        have := HR.out.2.2 k hk
        have := K1.out.size
        omega
      · intro k hk
        have h2 := HR5.out.1
        have h3 := K4.out.size
        rcases hk with hk | hk
        · have h9 : k = p5 := hk
          omega
        · simp [Value.ownBlock] at hk))
end Go.Proofs.Ythhcnfbolhoeaaa
