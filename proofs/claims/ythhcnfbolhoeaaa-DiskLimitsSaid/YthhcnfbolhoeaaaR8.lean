/- do: the acts that read and write. -/
import Derived.Test.YthhcnfbolhoeaaaR7
namespace Go.Proofs.Ythhcnfbolhoeaaa
open Go.RowKit
set_option linter.unusedVariables false

set_option maxHeartbeats 4000000 in
set_option maxRecDepth 100000 in
theorem do_read {n : Nat} {w : World} {q : Nat} {r : Rep} {ρ : RRep} {d : DS} (h : Desk n w q r ρ d) (hf : d.few 100000000) (a : Act') (ha : a.Ok) (hk : a.kind % 8 = 5) :
    Calls Try.prog 16 #[.pointer (some ⟨q, 0, none⟩), .agg #[.int .i64 a.kind, .int .i64 a.off, .int .i64 a.n, .string a.text]] w fun e w' => e = .returned (.bool true) ∧ DK n w' q (d) ∧ Since n w w' := by
  have ha' := ha
  have hx : ∃ X, X = d := ⟨_, rfl⟩
  obtain ⟨X, hX⟩ := hx
  rw [← hX]
  obtain ⟨kd, off, nn, text⟩ := a
  have hkd := ha.kind
  have hnn := ha.n
  simp only [i64In] at hkd hnn hk
  have M := fun w => Lib.hid (hk ▸ mod_any w kd 8 (by decide) (by decide) hkd)
  have hs0 : Keep (fun _ => False) w (w.alloc (.cells #[.int .i64 kd, .int .i64 off, .int .i64 nn, .string text] 33)) := (Keep.refl _ w).alloc' _
  have hd0 := h.quiet hs0
  have hblt : ∀ k, w.heap.size = k → ¬ r.foot k ∧ ¬ ρ.foot k ∧ k ≠ q := by
    rintro k rfl
    exact ⟨fun e => Nat.lt_irrefl _ (h.disk.foot_lt _ e), fun e => Nat.lt_irrefl _ (h.ref.foot_lt _ e), fun e => by have := blk_lt h.blk; omega⟩
  have hbx := hblt _ rfl
  have ha0 : (w.alloc (.cells #[.int .i64 kd, .int .i64 off, .int .i64 nn, .string text] 33)).heap[w.heap.size]? = some (.cells #[.int .i64 kd, .int .i64 off, .int .i64 nn, .string text] 33 (0, 0)) := heap_alloc_new _ _
  have H := Lib.hid h
  have HF := Lib.hid hf
  have HX := Lib.hid hX
  have HBX := Lib.hid hbx
  have HA := Lib.hid ha'
  clear hk ha h hf hblt hbx hX ha'
  go_enter Try.func16, Try.ntmps16
  go_wp2_with fail
  refine (M _).out.mono ?_
  rintro e wx ⟨rfl, rfl⟩
  obtain ⟨wa, hwa⟩ : ∃ wa, w.alloc (.cells #[.int .i64 kd, .int .i64 off, .int .i64 nn, .string text] 33) = wa := ⟨_, rfl⟩
  rw [hwa] at hs0 hd0 ha0 ⊢
  have HD := Lib.hid hd0
  have HS := Lib.hid hs0
  have KC := Lib.hid hd0.cells
  have KA := Lib.hid (act_cells ha0)
  clear hwa hs0 hd0 ha0
  have KS := Lib.hid (cells_six KC.out KA.out)
  have K := Lib.hid (keep_draw (fun _ => False) wa)
  have HW := fun w => Lib.hid (where_any w _ HA.out)
  have HL := fun w => Lib.hid (long_any w _ HA.out)
  simp only at HW HL
  have hwb := where_in HA.out
  have hlb := Act'.long_size ⟨kd, off, nn, text⟩
  obtain ⟨wh, hwh⟩ : ∃ wh, Act'.where_ ⟨kd, off, nn, text⟩ = wh := ⟨_, rfl⟩
  obtain ⟨lg, hlg⟩ : ∃ lg, Act'.long ⟨kd, off, nn, text⟩ = lg := ⟨_, rfl⟩
  simp only [hwh] at HW hwb
  simp only [hlg] at HL hlb
  have HWH := Lib.hid hwh
  have HLG := Lib.hid hlg
  simp only [i64In] at hwb
  have HQ1 := Lib.hid HD.out.q1
  have HQ2 := Lib.hid HD.out.q2
  clear hwh hlg
  go_wp2_with fail
  go_region_held3 (fun w' => w'.cell? ⟨q, 0, none⟩ = some (.pointer (some ⟨r.p, 0, none⟩)) ∧ w'.cell? ⟨q, 1, none⟩ = some (.pointer (some ⟨ρ.p, 0, none⟩)) ∧ w'.cell? ⟨w.heap.size, 0, none⟩ = some (.int .i64 kd) ∧ w'.cell? ⟨w.heap.size, 1, none⟩ = some (.int .i64 off) ∧ w'.cell? ⟨w.heap.size, 2, none⟩ = some (.int .i64 nn) ∧ w'.cell? ⟨w.heap.size, 3, none⟩ = some (.string text)) (first | exact KS.out)
    (first
      | (go_at_call 34; refine (HW _).out.mono ?_; rintro e wn ⟨rfl, hkn⟩; replace K := Lib.hid (Keep.trans K.out hkn); replace KS := Lib.hid (six_keep hkn KS.out id id); clear hkn)
      | (go_at_call 29; refine (read_disk (HD.out.disk.keep (Keep.mono K.out (fun _ => False.elim)) (fun _ _ => id)) wh nn hwb hnn.2).mono ?_; rintro e wn ⟨rfl, mm, hwn⟩; have hkn := hwn ▸ keep_drewN (fun _ => False) _ mm; replace K := Lib.hid (Keep.trans K.out hkn); replace KS := Lib.hid (six_keep hkn KS.out id id); clear hkn hwn)
      | (go_at_call 31; refine (rread (HD.out.ref.keep (Keep.mono K.out (fun _ => False.elim)) (fun _ _ => id)) wh nn hwb hnn.2).mono ?_; rintro e wn ⟨rfl, mm, hwn⟩; have hkn := hwn ▸ keep_drewN (fun _ => False) _ mm; replace K := Lib.hid (Keep.trans K.out hkn); replace KS := Lib.hid (six_keep hkn KS.out id id); clear hkn hwn))
  all_goals go_wp2_with fail
  all_goals go_ret
  all_goals exact ⟨rfl, HX.out ▸ ⟨_, _, HD.out.quiet K.out⟩, Since.of (Keep.trans HS.out K.out)⟩

set_option maxHeartbeats 4000000 in
set_option maxRecDepth 100000 in
theorem do_write {n : Nat} {w : World} {q : Nat} {r : Rep} {ρ : RRep} {d : DS} (h : Desk n w q r ρ d) (hf : d.few 100000000) (a : Act') (ha : a.Ok) (hk : a.kind % 8 ≠ 4 ∧ a.kind % 8 ≠ 5 ∧ a.kind % 8 ≠ 6 ∧ a.kind % 8 ≠ 7) :
    Calls Try.prog 16 #[.pointer (some ⟨q, 0, none⟩), .agg #[.int .i64 a.kind, .int .i64 a.off, .int .i64 a.n, .string a.text]] w fun e w' => e = .returned (.bool true) ∧ DK n w' q ((d.doWrite a.where_ (bs a.long)).2) ∧ Since n w w' := by
  have ha' := ha
  have hx : ∃ X, X = (d.doWrite a.where_ (bs a.long)).2 := ⟨_, rfl⟩
  obtain ⟨X, hX⟩ := hx
  rw [← hX]
  obtain ⟨kd, off, nn, text⟩ := a
  have hkd := ha.kind
  have hnn := ha.n
  simp only [i64In] at hkd hnn hk
  obtain ⟨kv, hkv⟩ : ∃ kv, kd % 8 = kv := ⟨_, rfl⟩
  rw [hkv] at hk
  have hk' := hk
  have M := fun w => Lib.hid (hkv ▸ mod_any w kd 8 (by decide) (by decide) hkd)
  have hs0 : Keep (fun _ => False) w (w.alloc (.cells #[.int .i64 kd, .int .i64 off, .int .i64 nn, .string text] 33)) := (Keep.refl _ w).alloc' _
  have hd0 := h.quiet hs0
  have hblt : ∀ k, w.heap.size = k → ¬ r.foot k ∧ ¬ ρ.foot k ∧ k ≠ q := by
    rintro k rfl
    exact ⟨fun e => Nat.lt_irrefl _ (h.disk.foot_lt _ e), fun e => Nat.lt_irrefl _ (h.ref.foot_lt _ e), fun e => by have := blk_lt h.blk; omega⟩
  have hbx := hblt _ rfl
  have ha0 : (w.alloc (.cells #[.int .i64 kd, .int .i64 off, .int .i64 nn, .string text] 33)).heap[w.heap.size]? = some (.cells #[.int .i64 kd, .int .i64 off, .int .i64 nn, .string text] 33 (0, 0)) := heap_alloc_new _ _
  have H := Lib.hid h
  have HF := Lib.hid hf
  have HX := Lib.hid hX
  have HBX := Lib.hid hbx
  have HA := Lib.hid ha'
  clear hk ha h hf hblt hbx hX ha'
  go_enter Try.func16, Try.ntmps16
  go_wp2_with fail
  refine (M _).out.mono ?_
  rintro e wx ⟨rfl, rfl⟩
  obtain ⟨wa, hwa⟩ : ∃ wa, w.alloc (.cells #[.int .i64 kd, .int .i64 off, .int .i64 nn, .string text] 33) = wa := ⟨_, rfl⟩
  rw [hwa] at hs0 hd0 ha0 ⊢
  have HD := Lib.hid hd0
  have HS := Lib.hid hs0
  have KC := Lib.hid hd0.cells
  have KA := Lib.hid (act_cells ha0)
  clear hwa hs0 hd0 ha0
  have KS := Lib.hid (cells_six KC.out KA.out)
  have K := Lib.hid (keep_draw (fun _ => False) wa)
  have HW := fun w => Lib.hid (where_any w _ HA.out)
  have HL := fun w => Lib.hid (long_any w _ HA.out)
  simp only at HW HL
  have hwb := where_in HA.out
  have hlb := Act'.long_size ⟨kd, off, nn, text⟩
  obtain ⟨wh, hwh⟩ : ∃ wh, Act'.where_ ⟨kd, off, nn, text⟩ = wh := ⟨_, rfl⟩
  obtain ⟨lg, hlg⟩ : ∃ lg, Act'.long ⟨kd, off, nn, text⟩ = lg := ⟨_, rfl⟩
  simp only [hwh] at HW hwb
  simp only [hlg] at HL hlb
  have HWH := Lib.hid hwh
  have HLG := Lib.hid hlg
  simp only [i64In] at hwb
  have HQ1 := Lib.hid HD.out.q1
  have HQ2 := Lib.hid HD.out.q2
  clear hwh hlg
  have b4 : ¬ kv = 4 := by omega
  have b5 : ¬ kv = 5 := by omega
  have b6 : ¬ kv = 6 := by omega
  have b7 : ¬ kv = 7 := by omega
  have c4 : (kv == 4) = false := by simpa using b4
  have c5 : (kv == 5) = false := by simpa using b5
  have c6 : (kv == 6) = false := by simpa using b6
  have c7 : (kv == 7) = false := by simpa using b7
  go_wp2_with fail
  go_region_held3 (fun w' => w'.cell? ⟨q, 0, none⟩ = some (.pointer (some ⟨r.p, 0, none⟩)) ∧ w'.cell? ⟨q, 1, none⟩ = some (.pointer (some ⟨ρ.p, 0, none⟩)) ∧ w'.cell? ⟨w.heap.size, 0, none⟩ = some (.int .i64 kd) ∧ w'.cell? ⟨w.heap.size, 1, none⟩ = some (.int .i64 off) ∧ w'.cell? ⟨w.heap.size, 2, none⟩ = some (.int .i64 nn) ∧ w'.cell? ⟨w.heap.size, 3, none⟩ = some (.string text)) (first | exact KS.out)
    (first
      | (go_at_call 34; refine (HW _).out.mono ?_; rintro e wn ⟨rfl, hkn⟩; replace K := Lib.hid (Keep.trans K.out hkn); replace KS := Lib.hid (six_keep hkn KS.out id id); clear hkn)
      | (go_at_call 36; refine (HL _).out.mono ?_; rintro e wn ⟨rfl, hkn⟩; replace K := Lib.hid (Keep.trans K.out hkn); replace KS := Lib.hid (six_keep hkn KS.out id id); clear hkn)
      | (go_at_call 27; refine (write_step (HD.out.disk.keep (Keep.mono K.out (fun _ => False.elim)) (fun _ _ => id)) wh lg hwb (by omega) HF.out).mono ?_; rintro e wn ⟨rfl, r', hst⟩; have HST := Lib.hid hst; have KB := Lib.hid (HD.out.quiet K.out); have KK := Lib.hid K.out; replace KS := Lib.hid (six_keep hst.keep KS.out HQ1.out HBX.out.1); replace K := Lib.hid (Keep.refl (fun _ => False) wn); clear hst)
      | (go_at_call 32; refine (rwrite_step (KB.out.ref.keep (Keep.trans HST.out.keep (Keep.mono K.out (fun _ => False.elim))) (fun k hk hk' => HD.out.sep k hk' hk)) wh lg hwb (by omega) HF.out).mono ?_; rintro e wn ⟨rfl, ρ', hrst⟩; have HRST := Lib.hid hrst; have KM := Lib.hid K.out; replace KS := Lib.hid (six_keep hrst.keep KS.out HQ2.out HBX.out.2.1); clear hrst))
  all_goals go_wp2_with fail
  all_goals go_ret
  all_goals (
    have hX := HX.out
    simp only [HWH.out, HLG.out] at hX
    rw [hX]
    exact ⟨rfl, ⟨_, _, KB.out.both' HST.out KM.out HRST.out⟩, Keep.trans (Since.of (Keep.trans HS.out KK.out)) (KB.out.since (HST.out.quiet KM.out) HRST.out)⟩)
end Go.Proofs.Ythhcnfbolhoeaaa
