/- Install: the store's Patch where it fits. -/
import Derived.Test.YtnhajhejkecihaaDoorMF
import Derived.Test.YtnhajhejkecihaaDoorMC
import Derived.Test.YtnhajhejkecihaaDoorME
import Derived.Laws.ResultCell
import Derived.Test.YtnhajhejkecihaaDoorTie
import Derived.Test.YtnhajhejkecihaaDoorCards
import Derived.ChangeSame
import Derived.ChangeVars
import Derived.JoinedOf
import Derived.LaidLaws
import Derived.Stop.LaidErr
import Derived.SevenTiedAt
namespace Go.Proofs.YtnhajhejkecihaaDoor
open Go.RowKit
set_option linter.unusedVariables false
set_option linter.unusedSimpArgs false

section
variable {n : Nat} {w : World} {p : Nat} {r : SR} {s : MS}
set_option maxRecDepth 100000 in
set_option maxHeartbeats 8000000 in
theorem patch_busy (h : IsStore n w p r s) (id at_ : Int) (b : Bytes) {i : Nat} (hf : s.find id = some i) (hat : -1000 ≤ at_ ∧ at_ ≤ 1000) (hbl : b.length ≤ 1000) (hfit : fitsAt (s.all.getD i ME.dflt).bytes at_ b = true) (hin : s.inn.contains id = true) :
    Calls Tryd.prog 18 #[.pointer (some ⟨p, 0, none⟩), .int .i64 id, .int .i64 at_, .string (sb b)] w fun e w' => e = .returned (.int .i64 41) ∧ w = w' := by
  have HC := Lib.hid (closed_any h)
  have HF := Lib.hid (find_any h id)
  rw [hf] at HF
  obtain ⟨hi, _, _⟩ := found_at hf
  change Hid (Calls _ _ _ _ fun e w' => e = Ending.returned (Value.pointer (some ⟨r.es.getD i 0, 0, none⟩)) ∧ _) at HF
  have hent := (h.ents i hi).1
  have hsz := h.inv.size _ (getD_mem (x := ME.dflt) hi)
  obtain ⟨m, rfl, hmb, hbp⟩ := fitsAt_nat hfit
  have c1 := h.c1
  have hcp := h.inv.cpus
  have hcon := Tryd.slices_Contains_int r.ib 0 s.inn.length r.ic s.inn id w (Nat.le_refl _) (by omega) (fun j hj => by
    rw [Nat.zero_add, h.inn.cellAt j (by omega)]
    simp [ints, List.getD_eq_getElem?_getD, List.getElem?_eq_getElem hj])
  rw [List.take_length] at hcon
  have hb0 : b ≠ [] := List.length_pos_iff.1 hbp
  have hemp := sb_empty hb0
  rw [hin] at hcon
  have HCO := Lib.hid (hcon.mono (fun e w' hh => And.intro hh.1 hh.2.symm))
  obtain ⟨eb, heb⟩ : ∃ eb, r.es.getD i 0 = eb := ⟨_, rfl⟩
  obtain ⟨e, he⟩ : ∃ e, s.all.getD i ME.dflt = e := ⟨_, rfl⟩
  rw [heb] at HF hent
  rw [he] at hent hsz hmb
  have e4 : w.cell? ⟨eb, 4, none⟩ = some (.string (sb e.bytes)) := (blk_cell hent 4).trans rfl
  have hst := hsz.2
  unfold ME.stop lns at hst
  obtain ⟨ol, hol⟩ : ∃ ol, e.bytes.length = ol := ⟨_, rfl⟩
  obtain ⟨bl, hble⟩ : ∃ bl, b.length = bl := ⟨_, rfl⟩
  have hs1 : (sb e.bytes).size = ol := by rw [sb_size, hol]
  have hs2 : (sb b).size = bl := by rw [sb_size, hble]
  obtain ⟨so, hso⟩ : ∃ so, sb e.bytes = so := ⟨_, rfl⟩
  rw [hso] at e4 hs1
  rw [hol] at hst hmb
  rw [hble] at hmb
  have hneg : decide ((m : Int) < 0) = false := by simp
  have hb1 : decide (ol < m) = false := by simp; omega
  have hb2 : decide ((ol : Int) - (m : Int) < (bl : Int)) = false := by simp; omega
  clear h hf heb he hsz hso hi hent hcon hfit hin
  go_enter Tryd.func18, Tryd.ntmps18
  go_wp2_with fail
  ((with_reducible refine HC.out.mono ?_); rintro ee w' ⟨rfl, rfl⟩)
  go_wp2_with fail
  ((with_reducible refine HF.out.mono ?_); rintro ee w' ⟨rfl, rfl⟩)
  go_wp2_with fail
  ((with_reducible refine HCO.out.mono ?_); rintro ee w' ⟨rfl, rfl⟩)
  go_wp2_with fail
  go_ret
  exact ⟨rfl, rfl⟩
set_option maxRecDepth 100000 in
set_option maxHeartbeats 16000000 in
theorem patch_ok (h : IsStore n w p r s) (id at_ : Int) (b : Bytes) {i : Nat} (hf : s.find id = some i) (hat : -1000 ≤ at_ ∧ at_ ≤ 1000) (hbl : b.length ≤ 1000) (hfit : fitsAt (s.all.getD i ME.dflt).bytes at_ b = true) (hin : s.inn.contains id = false) :
    Calls Tryd.prog 18 #[.pointer (some ⟨p, 0, none⟩), .int .i64 id, .int .i64 at_, .string (sb b)] w fun e w' => e = .returned (.int .i64 0) ∧ ∃ r', IsStore n w' p r' (s.patched i (spliced (s.all.getD i ME.dflt).bytes at_ b)) ∧ Keep (r.foot p) w w' ∧ ∀ k, r'.foot p k → r.foot p k ∨ w.heap.size ≤ k := by
  have HC := Lib.hid (closed_any h)
  have HF := Lib.hid (find_any h id)
  rw [hf] at HF
  obtain ⟨hi, _, _⟩ := found_at hf
  change Hid (Calls _ _ _ _ fun e w' => e = Ending.returned (Value.pointer (some ⟨r.es.getD i 0, 0, none⟩)) ∧ _) at HF
  have hent := (h.ents i hi).1
  have hsz := h.inv.size _ (getD_mem (x := ME.dflt) hi)
  obtain ⟨m, rfl, hmb, hbp⟩ := fitsAt_nat hfit
  have c1 := h.c1
  have hcp := h.inv.cpus
  have hcon := Tryd.slices_Contains_int r.ib 0 s.inn.length r.ic s.inn id w (Nat.le_refl _) (by omega) (fun j hj => by
    rw [Nat.zero_add, h.inn.cellAt j (by omega)]
    simp [ints, List.getD_eq_getElem?_getD, List.getElem?_eq_getElem hj])
  rw [List.take_length] at hcon
  have hb0 : b ≠ [] := List.length_pos_iff.1 hbp
  have hemp := sb_empty hb0
  rw [hin] at hcon
  have HCO := Lib.hid (hcon.mono (fun e w' hh => And.intro hh.1 hh.2.symm))
  have H := Lib.hid h
  obtain ⟨M, fs, hbd, hco⟩ := h.board
  have HBD := Lib.hid hbd
  have HCH := Lib.hid hco
  have HFIN := Lib.hid (And.intro hi (And.intro hmb hbp))
  have c0 := h.c0
  have hpe : p ≠ r.es.getD i 0 := cells_ne h.hdr hent (by decide)
  have hmbe := board_far hbd hent (by decide) (by decide) (by decide)
  have HENT := Lib.hid hent
  obtain ⟨eb, heb⟩ : ∃ eb, r.es.getD i 0 = eb := ⟨_, rfl⟩
  obtain ⟨e, he⟩ : ∃ e, s.all.getD i ME.dflt = e := ⟨_, rfl⟩
  obtain ⟨x, hx⟩ : ∃ x, r.xs.getD i MX.dflt = x := ⟨_, rfl⟩
  obtain ⟨o, ho⟩ : ∃ o, r.os.getD i 0 = o := ⟨_, rfl⟩
  rw [heb] at HF hent hpe hmbe HENT
  rw [he] at hent hsz hmb HENT HFIN ⊢
  rw [hx, ho] at hent HENT
  have HEQ := Lib.hid (And.intro heb (And.intro he (And.intro hx ho)))
  have e4 : w.cell? ⟨eb, 4, none⟩ = some (.string (sb e.bytes)) := (blk_cell hent 4).trans rfl
  have e1 : w.cell? ⟨eb, 1, none⟩ = some (.int .i64 ((16 * e.a : Nat) : Int)) := (blk_cell hent 1).trans rfl
  have f4 := blk_free hent 4
  have hst := hsz.2
  unfold ME.stop lns at hst
  obtain ⟨ol, hol⟩ : ∃ ol, e.bytes.length = ol := ⟨_, rfl⟩
  obtain ⟨bl, hble⟩ : ∃ bl, b.length = bl := ⟨_, rfl⟩
  have hs1 : (sb e.bytes).size = ol := by rw [sb_size, hol]
  have hs2 : (sb b).size = bl := by rw [sb_size, hble]
  have hcut := cutS_to e.bytes m (by omega)
  have hcut2 := cutS_from e.bytes (m + bl) (by omega)
  have hadd1 := fun W => addS (e.bytes.take m) b W (by rw [List.length_take]; omega)
  have hadd2 := fun W => addS (e.bytes.take m ++ b) (e.bytes.drop (m + bl)) W (by rw [List.length_append, List.length_take, List.length_drop]; omega)
  have hspl : e.bytes.take m ++ b ++ e.bytes.drop (m + bl) = spliced e.bytes (m : Int) b := by unfold spliced; rw [Int.toNat_natCast, hble]
  rw [hspl] at hadd2
  have hmi : ((m + bl : Nat) : Int) = (m : Int) + (bl : Int) := by omega
  rw [hmi] at hcut2
  have HC1 := Lib.hid hcut
  have HC2 := Lib.hid hcut2
  have HA1 := Lib.hid hadd1
  have HA2 := Lib.hid hadd2
  rw [hol] at hst hmb
  rw [hble] at hmb
  have HWR := Lib.hid (show IntKind.i64.wrap ((m : Int) + (bl : Int)) = (m : Int) + (bl : Int) by rw [IntKind.wrap_i64]; omega)
  obtain ⟨so, hso⟩ : ∃ so, sb e.bytes = so := ⟨_, rfl⟩
  rw [hso] at e4 hs1 HC1 HC2
  obtain ⟨sp, hsp⟩ : ∃ sp, spliced e.bytes (m : Int) b = sp := ⟨_, rfl⟩
  rw [hsp] at HA2 ⊢
  have HSP := Lib.hid hsp
  have hneg : decide ((m : Int) < 0) = false := by simp
  have hb1 : decide (ol < m) = false := by simp; omega
  have hb2 : decide ((ol : Int) - (m : Int) < (bl : Int)) = false := by simp; omega
  have G := Lib.hid (And.intro e4 (And.intro f4 (And.intro e1 (And.intro c0 c1))))
  have hamb : 16 * e.a + m + bl ≤ 4096 := by omega
  have hwa : IntKind.i64.wrap (((16 * e.a : Nat) : Int) + (m : Int)) = ((16 * e.a + m : Nat) : Int) := by rw [IntKind.wrap_i64]; omega
  have hwc := fun (W : World) (hbw : IsBoard W r.bb r.br M fs) => write_any hbw (16 * e.a + m) b (by omega) (by omega)
  obtain ⟨adr, hadr⟩ : ∃ adr : Int, ((16 * e.a + m : Nat) : Int) = adr := ⟨_, rfl⟩
  obtain ⟨av, hav⟩ : ∃ av : Int, ((16 * e.a : Nat) : Int) = av := ⟨_, rfl⟩
  rw [hadr] at hwa hwc
  rw [hav] at hwa
  have HAV := Lib.hid hav
  have HWA := Lib.hid hwa
  have HWC := Lib.hid hwc
  clear hwa hwc hav hadr
  have HNE := Lib.hid (And.intro hpe hmbe)
  clear h hf heb he hsz hso hi hent hcon hfit hin hx ho hbd hco hpe hmbe hcut hcut2 hadd1 hadd2 hspl hmi hsp hol f4 e1 c0
  go_enter Tryd.func18, Tryd.ntmps18
  go_wp2_with fail
  ((with_reducible refine HC.out.mono ?_); rintro ee w' ⟨rfl, rfl⟩)
  go_wp2_with fail
  ((with_reducible refine HF.out.mono ?_); rintro ee w' ⟨rfl, rfl⟩)
  go_wp2_with fail
  ((with_reducible refine HCO.out.mono ?_); rintro ee w' ⟨rfl, rfl⟩)
  go_upto_region 11 with (fail)
  refine wp_region_drewU (S := (fun w' => Hid (Keep (fun _ => False) w w'))) (D := [13, 14, 15, 16]) (by kernel_rfl) (by exact Lib.hid (keep_draw _ w)) (fun hH => ?_)
  refine wpAnyU_take (i := 0) (v := ?_) rfl (by kernel_rfl) (by kernel_rfl) (by kernel_rfl) (by kernel_rfl) (fun _ _ _ h => h) (Or.inl ⟨by rfl, ?_⟩) hH ?_
  rotate_left
  · (intro w'' hSw; (try dsimp only at hSw); go_simp; try with_reducible rfl)
  change wpAnyU _ _ _ _ _ _ _ _ (Act.put _ (some 61) _) _
  try simp only [Act.put, List.setIfInBounds_toArray, List.set_cons_zero, List.set_cons_succ]
  refine wpAnyU_take (i := 1) (v := ?_) rfl (by kernel_rfl) (by kernel_rfl) (by kernel_rfl) (by kernel_rfl) (fun _ _ _ h => h) (Or.inl ⟨by rfl, ?_⟩) hH ?_
  rotate_left
  · (intro w'' hSw; (try dsimp only at hSw); go_simp; try with_reducible rfl)
  change wpAnyU _ _ _ _ _ _ _ _ (Act.put _ (some 62) _) _
  try simp only [Act.put, List.setIfInBounds_toArray, List.set_cons_zero, List.set_cons_succ]
  refine wpAnyU_take (i := 2) (v := ?_) rfl (by kernel_rfl) (by kernel_rfl) (by kernel_rfl) (by kernel_rfl) (fun _ _ _ h => h) (Or.inl ⟨by rfl, ?_⟩) hH ?_
  rotate_left
  · (intro w'' hSw; (try dsimp only at hSw); go_simp; try with_reducible rfl)
  change wpAnyU _ _ _ _ _ _ _ _ (Act.put _ (some 63) _) _
  try simp only [Act.put, List.setIfInBounds_toArray, List.set_cons_zero, List.set_cons_succ]
  refine wpAnyU_take (i := 3) (v := ?_) rfl (by kernel_rfl) (by kernel_rfl) (by kernel_rfl) (by kernel_rfl) (fun _ _ _ h => h) (Or.inl ⟨by rfl, ?_⟩) hH ?_
  rotate_left
  · (intro w'' hSw; have q := HC1.out w''; go_simp; try with_reducible rfl)
  change wpAnyU _ _ _ _ _ _ _ _ (Act.put _ (some 64) _) _
  try simp only [Act.put, List.setIfInBounds_toArray, List.set_cons_zero, List.set_cons_succ]
  refine wpAnyU_take (i := 4) (v := ?_) rfl (by kernel_rfl) (by kernel_rfl) (by kernel_rfl) (by kernel_rfl) (fun _ _ _ h => h) (Or.inl ⟨by rfl, ?_⟩) hH ?_
  rotate_left
  · (intro w'' hSw; (try dsimp only at hSw); go_simp; try with_reducible rfl)
  change wpAnyU _ _ _ _ _ _ _ _ (Act.put _ (some 65) _) _
  try simp only [Act.put, List.setIfInBounds_toArray, List.set_cons_zero, List.set_cons_succ]
  refine wpAnyU_take (i := 5) (v := ?_) rfl (by kernel_rfl) (by kernel_rfl) (by kernel_rfl) (by kernel_rfl) (fun _ _ _ h => h) (Or.inl ⟨by rfl, ?_⟩) hH ?_
  rotate_left
  · (intro w'' hSw; have q := HA1.out w''; go_simp; try with_reducible rfl)
  change wpAnyU _ _ _ _ _ _ _ _ (Act.put _ (some 66) _) _
  try simp only [Act.put, List.setIfInBounds_toArray, List.set_cons_zero, List.set_cons_succ]
  refine wpAnyU_take (i := 6) (v := ?_) rfl (by kernel_rfl) (by kernel_rfl) (by kernel_rfl) (by kernel_rfl) (fun _ _ _ h => h) (Or.inl ⟨by rfl, ?_⟩) hH ?_
  rotate_left
  · (intro w'' hSw; (try dsimp only at hSw); go_simp; try with_reducible rfl)
  change wpAnyU _ _ _ _ _ _ _ _ (Act.put _ (some 67) _) _
  try simp only [Act.put, List.setIfInBounds_toArray, List.set_cons_zero, List.set_cons_succ]
  refine wpAnyU_take (i := 7) (v := ?_) rfl (by kernel_rfl) (by kernel_rfl) (by kernel_rfl) (by kernel_rfl) (fun _ _ _ h => h) (Or.inl ⟨by rfl, ?_⟩) hH ?_
  rotate_left
  · (intro w'' hSw; (try dsimp only at hSw); go_simp; try with_reducible rfl)
  change wpAnyU _ _ _ _ _ _ _ _ (Act.put _ (some 68) _) _
  try simp only [Act.put, List.setIfInBounds_toArray, List.set_cons_zero, List.set_cons_succ]
  refine wpAnyU_take (i := 8) (v := ?_) rfl (by kernel_rfl) (by kernel_rfl) (by kernel_rfl) (by kernel_rfl) (fun _ _ _ h => h) (Or.inl ⟨by rfl, ?_⟩) hH ?_
  rotate_left
  · (intro w'' hSw; (try dsimp only at hSw); go_simp; try with_reducible rfl)
  change wpAnyU _ _ _ _ _ _ _ _ (Act.put _ (some 69) _) _
  try simp only [Act.put, List.setIfInBounds_toArray, List.set_cons_zero, List.set_cons_succ]
  refine wpAnyU_take (i := 9) (v := ?_) rfl (by kernel_rfl) (by kernel_rfl) (by kernel_rfl) (by kernel_rfl) (fun _ _ _ h => h) (Or.inl ⟨by rfl, ?_⟩) hH ?_
  rotate_left
  · (intro w'' hSw; (try dsimp only at hSw); go_simp; try with_reducible rfl)
  change wpAnyU _ _ _ _ _ _ _ _ (Act.put _ (some 70) _) _
  try simp only [Act.put, List.setIfInBounds_toArray, List.set_cons_zero, List.set_cons_succ]
  refine wpAnyU_take (i := 10) (v := ?_) rfl (by kernel_rfl) (by kernel_rfl) (by kernel_rfl) (by kernel_rfl) (fun _ _ _ h => h) (Or.inl ⟨by rfl, ?_⟩) hH ?_
  rotate_left
  · (intro w'' hSw; have q := HWR.out; go_simp; try with_reducible rfl)
  change wpAnyU _ _ _ _ _ _ _ _ (Act.put _ (some 71) _) _
  try simp only [Act.put, List.setIfInBounds_toArray, List.set_cons_zero, List.set_cons_succ]
  refine wpAnyU_take (i := 11) (v := ?_) rfl (by kernel_rfl) (by kernel_rfl) (by kernel_rfl) (by kernel_rfl) (fun _ _ _ h => h) (Or.inl ⟨by rfl, ?_⟩) hH ?_
  rotate_left
  · (intro w'' hSw; have q := HC2.out w''; go_simp; try with_reducible rfl)
  change wpAnyU _ _ _ _ _ _ _ _ (Act.put _ (some 72) _) _
  try simp only [Act.put, List.setIfInBounds_toArray, List.set_cons_zero, List.set_cons_succ]
  refine wpAnyU_take (i := 12) (v := ?_) rfl (by kernel_rfl) (by kernel_rfl) (by kernel_rfl) (by kernel_rfl) (fun _ _ _ h => h) (Or.inl ⟨by rfl, ?_⟩) hH ?_
  rotate_left
  · (intro w'' hSw; have q := HA2.out w''; go_simp; try with_reducible rfl)
  change wpAnyU _ _ _ _ _ _ _ _ (Act.put _ (some 73) _) _
  try simp only [Act.put, List.setIfInBounds_toArray, List.set_cons_zero, List.set_cons_succ]
  refine wpAnyU_pure (i := 13) (v := ?_) rfl (by kernel_rfl) (by kernel_rfl) (by kernel_rfl) (by rfl) (fun _ _ _ h => h) (Or.inl ⟨by rfl, ?_⟩) ?_
  rotate_left
  · (intro w'' _; go_simp; try with_reducible rfl)
  change wpAnyU _ _ _ _ _ _ _ _ (Act.put _ (some 74) _) _
  try simp only [Act.put, List.setIfInBounds_toArray, List.set_cons_zero, List.set_cons_succ]
  refine wpAnyU_pure (i := 14) (v := ?_) rfl (by kernel_rfl) (by kernel_rfl) (by kernel_rfl) (by rfl) (fun _ _ _ h => h) (Or.inl ⟨by rfl, ?_⟩) ?_
  rotate_left
  · (intro w'' _; go_simp; try with_reducible rfl)
  change wpAnyU _ _ _ _ _ _ _ _ (Act.put _ (some 75) _) _
  try simp only [Act.put, List.setIfInBounds_toArray, List.set_cons_zero, List.set_cons_succ]
  refine wpAnyU_pure (i := 15) (v := ?_) rfl (by kernel_rfl) (by kernel_rfl) (by kernel_rfl) (by rfl) (fun _ _ _ h => h) (Or.inl ⟨by rfl, ?_⟩) ?_
  rotate_left
  · (intro w'' _; go_simp; try with_reducible rfl)
  change wpAnyU _ _ _ _ _ _ _ _ (Act.put _ (some 76) _) _
  try simp only [Act.put, List.setIfInBounds_toArray, List.set_cons_zero, List.set_cons_succ]
  refine wpAnyU_ready (rs := [16]) (by kernel_rfl) (by simp) ?_
  refine AllReadyU.last rfl (by rfl) (fun Kn hKn => ?_) AllReadyU.nil
  generalize w.drew = wz at hH ⊢
  have q4 := cell_kept hH.out G.out.1 (fun hh => hh)
  have f4 := (keep_frozen hH.out (World.block_lt_of_cell? _ _ G.out.1) (fun hh => hh)).trans G.out.2.1
  go_simp
  refine hKn.out _ _ ?_
  clear hKn Kn
  try simp only [Act.put, List.setIfInBounds_toArray, List.set_cons_zero, List.set_cons_succ]
  refine wpAnyU_done (by kernel_rfl) ?_ _
  have ks := keep_set (Keep.refl (fun k => k = eb) wz) 4 (.string (sb sp))
  have KA := Lib.hid (Keep.trans (Keep.mono hH.out (fun _ => False.elim)) ks)
  have HEA := Lib.hid (blk_set ((hH.out.block _ (blk_lt HENT.out) (fun hh => hh)).trans HENT.out) 4 (.string (sb sp)))
  obtain ⟨wa, hwa⟩ : ∃ wa, wz.setCell ⟨eb, 4, none⟩ (.string (sb sp)) = wa := ⟨_, rfl⟩
  have HW := Lib.hid hwa
  rw [hwa] at KA HEA
  clear ks hwa
  go_upto_region 12 with (fail)
  rw [HW.out]
  have HBA := Lib.hid (HBD.out.keep KA.out HNE.out.2)
  have A0 := Lib.hid (cell_kept KA.out G.out.2.2.2.1 HNE.out.1)
  have A1 := Lib.hid (show wa.cell? ⟨eb, 1, none⟩ = some (.int .i64 av) by rw [← HAV.out]; exact (blk_cell HEA.out 1).trans rfl)
  have HBR := Lib.hid (HBA.out.keep (keep_draw (fun _ => False) wa) (fun _ _ hh => hh))
  have HNM := Lib.hid (show p ≠ r.br.mb ∧ eb ≠ r.br.mb from by
    obtain ⟨mcs, hmc⟩ := own_type HBD.out.mem (k := r.br.mb) rfl
    exact ⟨cells_ne H.out.hdr hmc (by decide), cells_ne HENT.out hmc (by decide)⟩)
  refine wp_region_drewU (S := (fun w' => Hid (Keep (fun k => k = r.br.mb) wa w'))) (D := []) (by kernel_rfl) (by exact Lib.hid (keep_draw _ wa)) (fun hH => ?_)
  refine wpAnyU_take (i := 0) (v := ?_) rfl (by kernel_rfl) (by kernel_rfl) (by kernel_rfl) (by kernel_rfl) (fun _ _ _ h => h) (Or.inl ⟨by rfl, ?_⟩) hH ?_
  rotate_left
  · (intro w'' hSw; (try dsimp only at hSw); go_simp; try with_reducible rfl)
  change wpAnyU _ _ _ _ _ _ _ _ (Act.put _ (some 77) _) _
  try simp only [Act.put, List.setIfInBounds_toArray, List.set_cons_zero, List.set_cons_succ]
  refine wpAnyU_take (i := 1) (v := ?_) rfl (by kernel_rfl) (by kernel_rfl) (by kernel_rfl) (by kernel_rfl) (fun _ _ _ h => h) (Or.inl ⟨by rfl, ?_⟩) hH ?_
  rotate_left
  · (intro w'' hSw; (try dsimp only at hSw); go_simp; try with_reducible rfl)
  change wpAnyU _ _ _ _ _ _ _ _ (Act.put _ (some 78) _) _
  try simp only [Act.put, List.setIfInBounds_toArray, List.set_cons_zero, List.set_cons_succ]
  refine wpAnyU_take (i := 2) (v := ?_) rfl (by kernel_rfl) (by kernel_rfl) (by kernel_rfl) (by kernel_rfl) (fun _ _ _ h => h) (Or.inl ⟨by rfl, ?_⟩) hH ?_
  rotate_left
  · (intro w'' hSw; (try dsimp only at hSw); go_simp; try with_reducible rfl)
  change wpAnyU _ _ _ _ _ _ _ _ (Act.put _ (some 79) _) _
  try simp only [Act.put, List.setIfInBounds_toArray, List.set_cons_zero, List.set_cons_succ]
  refine wpAnyU_take (i := 3) (v := ?_) rfl (by kernel_rfl) (by kernel_rfl) (by kernel_rfl) (by kernel_rfl) (fun _ _ _ h => h) (Or.inl ⟨by rfl, ?_⟩) hH ?_
  rotate_left
  · (intro w'' hSw; have q := cell_kept hSw.out A0.out HNM.out.1; go_simp; try with_reducible rfl)
  change wpAnyU _ _ _ _ _ _ _ _ (Act.put _ (some 80) _) _
  try simp only [Act.put, List.setIfInBounds_toArray, List.set_cons_zero, List.set_cons_succ]
  refine wpAnyU_take (i := 4) (v := ?_) rfl (by kernel_rfl) (by kernel_rfl) (by kernel_rfl) (by kernel_rfl) (fun _ _ _ h => h) (Or.inl ⟨by rfl, ?_⟩) hH ?_
  rotate_left
  · (intro w'' hSw; (try dsimp only at hSw); go_simp; try with_reducible rfl)
  change wpAnyU _ _ _ _ _ _ _ _ (Act.put _ (some 81) _) _
  try simp only [Act.put, List.setIfInBounds_toArray, List.set_cons_zero, List.set_cons_succ]
  refine wpAnyU_take (i := 5) (v := ?_) rfl (by kernel_rfl) (by kernel_rfl) (by kernel_rfl) (by kernel_rfl) (fun _ _ _ h => h) (Or.inl ⟨by rfl, ?_⟩) hH ?_
  rotate_left
  · (intro w'' hSw; (try dsimp only at hSw); go_simp; try with_reducible rfl)
  change wpAnyU _ _ _ _ _ _ _ _ (Act.put _ (some 82) _) _
  try simp only [Act.put, List.setIfInBounds_toArray, List.set_cons_zero, List.set_cons_succ]
  refine wpAnyU_take (i := 6) (v := ?_) rfl (by kernel_rfl) (by kernel_rfl) (by kernel_rfl) (by kernel_rfl) (fun _ _ _ h => h) (Or.inl ⟨by rfl, ?_⟩) hH ?_
  rotate_left
  · (intro w'' hSw; (try dsimp only at hSw); go_simp; try with_reducible rfl)
  change wpAnyU _ _ _ _ _ _ _ _ (Act.put _ (some 83) _) _
  try simp only [Act.put, List.setIfInBounds_toArray, List.set_cons_zero, List.set_cons_succ]
  refine wpAnyU_take (i := 7) (v := ?_) rfl (by kernel_rfl) (by kernel_rfl) (by kernel_rfl) (by kernel_rfl) (fun _ _ _ h => h) (Or.inl ⟨by rfl, ?_⟩) hH ?_
  rotate_left
  · (intro w'' hSw; have q := cell_kept hSw.out A1.out HNM.out.2; go_simp; try with_reducible rfl)
  change wpAnyU _ _ _ _ _ _ _ _ (Act.put _ (some 84) _) _
  try simp only [Act.put, List.setIfInBounds_toArray, List.set_cons_zero, List.set_cons_succ]
  refine wpAnyU_take (i := 8) (v := ?_) rfl (by kernel_rfl) (by kernel_rfl) (by kernel_rfl) (by kernel_rfl) (fun _ _ _ h => h) (Or.inl ⟨by rfl, ?_⟩) hH ?_
  rotate_left
  · (intro w'' hSw; (try dsimp only at hSw); go_simp; try with_reducible rfl)
  change wpAnyU _ _ _ _ _ _ _ _ (Act.put _ (some 85) _) _
  try simp only [Act.put, List.setIfInBounds_toArray, List.set_cons_zero, List.set_cons_succ]
  refine wpAnyU_take (i := 9) (v := ?_) rfl (by kernel_rfl) (by kernel_rfl) (by kernel_rfl) (by kernel_rfl) (fun _ _ _ h => h) (Or.inl ⟨by rfl, ?_⟩) hH ?_
  rotate_left
  · (intro w'' hSw; have q := HWA.out; go_simp; try with_reducible rfl)
  change wpAnyU _ _ _ _ _ _ _ _ (Act.put _ (some 86) _) _
  try simp only [Act.put, List.setIfInBounds_toArray, List.set_cons_zero, List.set_cons_succ]
  refine wpAnyU_take (i := 10) (v := ?_) rfl (by kernel_rfl) (by kernel_rfl) (by kernel_rfl) (by kernel_rfl) (fun _ _ _ h => h) (Or.inl ⟨by rfl, ?_⟩) hH ?_
  rotate_left
  · (intro w'' hSw; (try dsimp only at hSw); go_simp; try with_reducible rfl)
  change wpAnyU _ _ _ _ _ _ _ _ (Act.put _ (some 87) _) _
  try simp only [Act.put, List.setIfInBounds_toArray, List.set_cons_zero, List.set_cons_succ]
  refine wpAnyU_ready (rs := [11]) (by kernel_rfl) (by simp) ?_
  refine AllReadyU.cons rfl (fun Kn hKn => ?_) AllReadyU.nil
  go_simp
  go_at_call 35
  (with_reducible refine (HWC.out _ HBR.out).mono ?_)
  rintro ee wb ⟨rfl, hbw, hkw⟩
  have HBW := Lib.hid hbw
  have HKW := Lib.hid (Keep.trans hH.out hkw)
  clear hbw hkw
  refine hKn.out _ _ ?_ (fun hH => ?_)
  · (exact HKW)
  clear hKn Kn
  try simp only [Act.put, List.setIfInBounds_toArray, List.set_cons_zero, List.set_cons_succ]
  refine wpAnyU_done (by kernel_rfl) ?_ _
  have he2 := (hH.out.block _ (blk_lt HEA.out) HNM.out.2).trans HEA.out
  have c1b := cell_kept hH.out (cell_kept KA.out G.out.2.2.2.2 HNE.out.1) HNM.out.1
  have HO := Lib.hid (owe_low (p := p) c1b he2 (by simp [ecells]) HNE.out.1 hcp.2)
  have HE2 := Lib.hid he2
  clear he2 c1b
  go_wp2_with fail
  ((with_reducible refine HO.out.mono ?_); rintro ee w5 ⟨rfl, o2, ho2, hc2, hf2, hk2⟩)
  have HR := Lib.hid (show ∃ r', IsStore n w5 p r' (s.patched i sp) ∧ Keep (r.foot p) w w5 ∧ ∀ k, r'.foot p k → r.foot p k ∨ w.heap.size ≤ k from by
    obtain ⟨heb, he, hx, ho⟩ := HEQ.out
    obtain ⟨hi, hmb2, hbp2⟩ := HFIN.out
    have hkk : Keep (fun k => k = eb ∨ k = r.br.mb) w w5 := Keep.trans (Keep.trans (Keep.mono KA.out (fun k e => .inl e)) (Keep.mono hH.out (fun k e => .inr e))) (Keep.mono hk2 (fun k e => .inl e))
    have hbd5 : IsBoard w5 r.bb r.br (wrote M (16 * e.a + m) b) fs := HBW.out.keep hk2 (board_far HBW.out HE2.out (by decide) (by decide) (by decide))
    have hco5 := HCH.out.patched H.out.inv HBD.out.len hi hbp2 (by rw [he]; exact hmb2)
    rw [he, HSP.out] at hco5
    have hem : r.es.getD i 0 ∈ r.es := getD_mem (by rw [H.out.eslen]; exact hi)
    have hpt : s.patched i sp = s.put i { e with bytes := sp, owed := s.owing } := by unfold MS.patched; rw [he]
    have hsl : sp.length = e.bytes.length := by rw [← HSP.out]; exact spliced_length hmb2
    have hw0 : w.heap.size ≤ wb.heap.size := by have := KA.out.size; have h2 := hH.out.size; omega
    rw [hpt] at hco5 ⊢
    refine ⟨_, H.out.entry2 hi { e with bytes := sp, owed := s.owing } o2 HBD.out hbd5 (by rw [heb, hx]; exact hc2) ?_ (by rw [heb]; exact hkk) (by omega) (s.put_inv H.out.inv hi _ (by rw [he]) (by rw [he]) (by rw [he]; exact hsl) (by simp [MS.owing])) hco5, Keep.mono hkk (fun k e' => ?_), fun k hk' => ?_⟩
    · have e1 : (s.owing).count true = s.inn.length := by simp [MS.owing]
      show FB _ _ _ _ _ (owedS s.owing) (s.owing.count true)
      rw [e1]
      exact hf2
    · rcases e' with e' | e'
      · rw [e', ← heb]; exact .inr (.inr (.inr (.inr (.inl hem))))
      · exact .inr (.inl (.inr (.inl e')))
    · rcases hk' with h1 | h1 | h1 | h1 | h1 | h1
      · exact .inl (.inl h1)
      · exact .inl (.inr (.inl h1))
      · exact .inl (.inr (.inr (.inl h1)))
      · exact .inl (.inr (.inr (.inr (.inl h1))))
      · exact .inl (.inr (.inr (.inr (.inr (.inl h1)))))
      · rcases List.mem_or_eq_of_mem_set h1 with h1 | rfl
        · exact .inl (.inr (.inr (.inr (.inr (.inr h1)))))
        · exact .inr (by omega))
  clear hc2 hf2 hk2 ho2
  go_wp2_with fail
  go_ret
  exact ⟨rfl, HR.out⟩
end
end Go.Proofs.YtnhajhejkecihaaDoor
/- Install: the store's calls in the reference's words. -/
namespace Go.Proofs.YtnhajhejkecihaaDoor
open Go.RowKit
set_option linter.unusedVariables false
set_option linter.unusedSimpArgs false

/-- The store has become another one. -/
def OUT (n : Nat) (w : World) (p : Nat) (r : SR) (s : MS) (w' : World) : Prop := ∃ r', IsStore n w' p r' s ∧ Keep (r.foot p) w w' ∧ ∀ k, r'.foot p k → r.foot p k ∨ w.heap.size ≤ k
section
variable {n : Nat} {w : World} {p : Nat} {r : SR} {ρ : RS}
theorem OUT.same (h : IsStore n w p r ρ.abs) {w' : World} (e : w = w') : OUT n w p r ρ.abs w' := by subst e; exact ⟨r, h, Keep.refl _ _, fun _ => .inl⟩
theorem OUT.since (h : IsStore n w p r ρ.abs) {w' : World} (hk : Since w.heap.size w w') : OUT n w p r ρ.abs w' := ⟨r, h.since hk, ⟨hk.os, hk.tape, hk.output, hk.size, fun k h1 _ => hk.block k h1 (by omega)⟩, fun _ => .inl⟩
theorem IsStore.since_keep (h : IsStore n w p r ρ.abs) {w' : World} (hk : Since w.heap.size w w') : Keep (r.foot p) w w' := ⟨hk.os, hk.tape, hk.output, hk.size, fun k h1 _ => hk.block k h1 (by omega)⟩
theorem iEnter (h : IsStore n w p r ρ.abs) (ok : ρ.Ok) (c id : Int) :
    Calls Tryd.prog 16 #[.pointer (some ⟨p, 0, none⟩), .int .i64 c, .int .i64 id] w fun e w' => e = .returned (.tuple #[.string (sb (ρ.enterR c id).1), .int .i64 (ρ.enterR c id).2.1]) ∧ OUT n w p r (ρ.enterR c id).2.2.abs w' := by
  unfold RS.enterR
  cases hcpu : ρ.cpu c with
  | false =>
    rw [if_pos rfl]
    exact (enter_arg h c id hcpu).mono fun e w' ⟨h1, h2⟩ => ⟨h1, OUT.same h h2⟩
  | true =>
    rw [if_neg (by decide)]
    obtain ⟨k, rfl, hk⟩ := RS.cpu_nat hcpu
    cases hth : ρ.there id with
    | false =>
      rw [if_pos rfl]
      exact (enter_none h hk id (ok.find_none hth)).mono fun e w' ⟨h1, h2⟩ => ⟨h1, OUT.same h h2⟩
    | true =>
      rw [if_neg (by decide)]
      obtain ⟨i, rfl, hi, hd⟩ := RS.there_at hth
      obtain ⟨j, hf, hj, hat, _⟩ := ok.find_there hi hd
      have hb : ρ.busy (k : Int) = decide (0 ≤ ρ.abs.inn.getD k 0) := by unfold RS.busy; rw [Int.toNat_natCast]; rfl
      rw [hb]
      simp only [Int.toNat_natCast]
      by_cases hbz : 0 ≤ ρ.abs.inn.getD k 0
      · rw [if_pos (by simpa using hbz)]
        exact (enter_busy h hk (i : Int) hf hbz).mono fun e w' ⟨h1, h2⟩ => ⟨h1, OUT.same h h2⟩
      · rw [if_neg (by simpa using hbz)]
        cases how : (ρ.at_ i).owed.getD k false with
        | true =>
          rw [if_pos rfl]
          exact (enter_stale h hk (i : Int) hf (by omega) (by rw [hat]; exact how)).mono fun e w' ⟨h1, h2⟩ => ⟨h1, OUT.same h h2⟩
        | false =>
          rw [if_neg (by decide)]
          refine (enter_ok h hk (i : Int) hf (by omega) (by rw [hat]; exact how)).mono fun e w' ⟨h1, h2, h3⟩ => ⟨by rw [h1, hat], r, h2, h3, fun _ => .inl⟩
theorem iLeave (h : IsStore n w p r ρ.abs) (ok : ρ.Ok) (c : Int) :
    Calls Tryd.prog 17 #[.pointer (some ⟨p, 0, none⟩), .int .i64 c] w fun e w' => e = .returned (.int .i64 (ρ.leaveR c).1) ∧ OUT n w p r (ρ.leaveR c).2.abs w' := by
  unfold RS.leaveR
  cases hcpu : ρ.cpu c with
  | false =>
    rw [if_pos rfl]
    exact (leave_arg h c hcpu).mono fun e w' ⟨h1, h2⟩ => ⟨h1, OUT.same h h2⟩
  | true =>
    rw [if_neg (by decide)]
    obtain ⟨k, rfl, hk⟩ := RS.cpu_nat hcpu
    have hb : ρ.busy (k : Int) = decide (0 ≤ ρ.abs.inn.getD k 0) := by unfold RS.busy; rw [Int.toNat_natCast]; rfl
    rw [hb]
    simp only [Int.toNat_natCast]
    by_cases hbz : 0 ≤ ρ.abs.inn.getD k 0
    · rw [if_neg (by simpa using hbz)]
      exact (leave_any h hk hbz).mono fun e w' ⟨h1, h2, h3⟩ => ⟨h1, r, h2, h3, fun _ => .inl⟩
    · rw [if_pos (by simpa using hbz)]
      exact (leave_idle h hk (by omega)).mono fun e w' ⟨h1, h2⟩ => ⟨h1, OUT.same h h2⟩
theorem iSafe (h : IsStore n w p r ρ.abs) (ok : ρ.Ok) (c : Int) :
    Calls Tryd.prog 19 #[.pointer (some ⟨p, 0, none⟩), .int .i64 c] w fun e w' => e = .returned (.int .i64 (ρ.safeR c).1) ∧ OUT n w p r (ρ.safeR c).2.abs w' := by
  unfold RS.safeR
  cases hcpu : ρ.cpu c with
  | false =>
    rw [if_pos rfl]
    exact (safe_arg h c hcpu).mono fun e w' ⟨h1, h2⟩ => ⟨h1, OUT.same h h2⟩
  | true =>
    rw [if_neg (by decide)]
    obtain ⟨k, rfl, hk⟩ := RS.cpu_nat hcpu
    have hb : ρ.busy (k : Int) = decide (0 ≤ ρ.abs.inn.getD k 0) := by unfold RS.busy; rw [Int.toNat_natCast]; rfl
    rw [hb]
    simp only [Int.toNat_natCast]
    by_cases hbz : 0 ≤ ρ.abs.inn.getD k 0
    · rw [if_pos (by simpa using hbz)]
      exact (safe_busy h hk hbz).mono fun e w' ⟨h1, h2⟩ => ⟨h1, OUT.same h h2⟩
    · rw [if_neg (by simpa using hbz)]
      refine (safe_any h hk (by omega)).mono fun e w' ⟨h1, h2⟩ => ⟨h1, ?_⟩
      show OUT n w p r (ρ.passed k).abs w'
      rw [RS.abs_passed]
      exact h2
theorem iDrop (h : IsStore n w p r ρ.abs) (ok : ρ.Ok) (id : Int) :
    Calls Tryd.prog 22 #[.pointer (some ⟨p, 0, none⟩), .int .i64 id] w fun e w' => e = .returned (.int .i64 (ρ.dropR id).1) ∧ OUT n w p r (ρ.dropR id).2.abs w' := by
  unfold RS.dropR
  cases hth : ρ.there id with
  | false =>
    rw [if_pos rfl]
    exact (drop_none h id (ok.find_none hth)).mono fun e w' ⟨h1, h2⟩ => ⟨h1, OUT.same h h2⟩
  | true =>
    rw [if_neg (by decide)]
    obtain ⟨i, rfl, hi, hd⟩ := RS.there_at hth
    obtain ⟨j, hf, hj, hat, hput⟩ := ok.find_there hi hd
    simp only [Int.toNat_natCast]
    refine (drop_any h (i : Int) hf).mono fun e w' ⟨h1, h2⟩ => ⟨h1, ?_⟩
    rw [hput _ (drop_gone ok.cpus.1 _)]
    rw [hat] at h2
    exact h2
theorem iPatch (h : IsStore n w p r ρ.abs) (ok : ρ.Ok) (id at_ : Int) (b : Bytes) (hat : -1000 ≤ at_ ∧ at_ ≤ 1000) (hbl : b.length ≤ 1000) :
    Calls Tryd.prog 18 #[.pointer (some ⟨p, 0, none⟩), .int .i64 id, .int .i64 at_, .string (sb b)] w fun e w' => e = .returned (.int .i64 (ρ.patchR id at_ b).1) ∧ OUT n w p r (ρ.patchR id at_ b).2.abs w' := by
  unfold RS.patchR
  cases hth : ρ.there id with
  | false =>
    rw [if_pos rfl]
    exact (patch_none h id at_ b (ok.find_none hth)).mono fun e w' ⟨h1, h2⟩ => ⟨h1, OUT.same h h2⟩
  | true =>
    rw [if_neg (by decide)]
    obtain ⟨i, rfl, hi, hd⟩ := RS.there_at hth
    obtain ⟨j, hf, hj, hati, hput⟩ := ok.find_there hi hd
    simp only [Int.toNat_natCast]
    cases hfit : fitsAt (ρ.at_ i).bytes at_ b with
    | false =>
      rw [if_pos rfl]
      exact (patch_arg h (i : Int) at_ b hf hat hbl (by rw [hati]; exact hfit)).mono fun e w' ⟨h1, h2⟩ => ⟨h1, OUT.same h h2⟩
    | true =>
      rw [if_neg (by decide)]
      cases hin : ρ.inn.contains (i : Int) with
      | true =>
        rw [if_pos rfl]
        exact (patch_busy h (i : Int) at_ b hf hat hbl (by rw [hati]; exact hfit) hin).mono fun e w' ⟨h1, h2⟩ => ⟨h1, OUT.same h h2⟩
      | false =>
        rw [if_neg (by decide)]
        refine (patch_ok h (i : Int) at_ b hf hat hbl (by rw [hati]; exact hfit) hin).mono fun e w' ⟨h1, h2⟩ => ⟨h1, ?_⟩
        have hg : ((ρ.at_ i).patch ρ.owing (spliced (ρ.at_ i).bytes at_ b)).gone = false := by unfold ME.gone; rw [show ((ρ.at_ i).patch ρ.owing (spliced (ρ.at_ i).bytes at_ b)).dropped = false from hd]; rfl
        rw [hput _ hg]
        unfold MS.patched at h2
        rw [hati] at h2
        exact h2
theorem iAdd (h : IsStore n w p r ρ.abs) (ok : ρ.Ok) (b : Bytes) (x : MX) (hbl : b.length ≤ 100000) (hl : ρ.L.length < 1000000) :
    Calls Tryd.prog 21 #[.pointer (some ⟨p, 0, none⟩), modV b x] w fun e w' => e = .returned (.tuple #[.int .i64 (ρ.addR b).1, .int .i64 (ρ.addR b).2.1]) ∧ OUT n w p r (ρ.addR b).2.2.abs w' := by
  unfold RS.addR
  by_cases hb : b.length = 0 ∨ 4096 < b.length
  · rw [if_pos hb]
    exact (add_bytes h x hb hbl).mono fun e w' ⟨h1, h2⟩ => ⟨h1, OUT.since h (Since.of h2)⟩
  · rw [if_neg hb]
    have hm := ρ.many_abs
    have hfew := h.inv.few
    by_cases h16 : 16 ≤ ρ.many
    · rw [if_pos h16]
      exact (add_full h x (by omega) (by omega)).mono fun e w' ⟨h1, h2⟩ => ⟨h1, OUT.since h h2⟩
    · rw [if_neg h16]
      cases hp : ρ.abs.place b.length with
      | none => exact (add_none h x (by omega) (by omega) hp).mono fun e w' ⟨h1, h2⟩ => ⟨h1, OUT.since h h2⟩
      | some a =>
        refine (add_some h x (by omega) (by omega) hp hl).mono fun e w' ⟨h1, h2⟩ => ⟨h1, ?_⟩
        show OUT n w p r (ρ.added b a).abs w'
        rw [RS.abs_added]
        exact h2
end
end Go.Proofs.YtnhajhejkecihaaDoor
/- Install: a store beside its reference, in one word. -/
namespace Go.Proofs.YtnhajhejkecihaaDoor
open Go.RowKit
set_option linter.unusedVariables false
set_option linter.unusedSimpArgs false

/-- A store s and a reference ρ, both made since w0, with nothing in common; the blocks of C are none of theirs. -/
def PQ (n : Nat) (w0 : World) (p q : Nat) (s : MS) (ρ : RS) (C : List (Nat × Obj)) (w : World) : Prop :=
  ∃ r u, IsStore n w p r s ∧ IsRef n w q u ρ ∧ Since n w0 w ∧ (∀ k, r.foot p k → ¬ u.foot q k) ∧ (∀ x ∈ C, w.heap[x.1]? = some x.2 ∧ ¬ r.foot p x.1 ∧ ¬ u.foot q x.1) ∧ 0 < n ∧ TB w
section
variable {n : Nat} {w0 w : World} {p q : Nat} {s : MS} {ρ : RS} {C : List (Nat × Obj)}
theorem PQ.ok (h : PQ n w0 p q s ρ C w) : ρ.Ok := by obtain ⟨r, u, _, h2, _⟩ := h; exact h2.ok
theorem PQ.inv (h : PQ n w0 p q s ρ C w) : s.Inv := by obtain ⟨r, u, h1, _⟩ := h; exact h1.inv
theorem PQ.since (h : PQ n w0 p q s ρ C w) : Since n w0 w := by obtain ⟨r, u, _, _, h3, _⟩ := h; exact h3
theorem PQ.tb (h : PQ n w0 p q s ρ C w) : TB w := by obtain ⟨r, u, _, _, _, _, _, _, h7⟩ := h; exact h7
theorem PQ.at_ (h : PQ n w0 p q s ρ C w) {b : Nat} {o : Obj} (hx : (b, o) ∈ C) : w.heap[b]? = some o := by obtain ⟨r, u, _, _, _, _, h5, _⟩ := h; exact (h5 _ hx).1
theorem PQ.low (h : PQ n w0 p q s ρ C w) : n ≤ w.heap.size := by obtain ⟨r, u, _, h2, _⟩ := h; exact h2.base
theorem PQ.hdr (h : PQ n w0 p q s ρ C w) : ∃ u : RR, w.cell? ⟨q, 0, none⟩ = some (.slice u.A ρ.L.length u.ac) ∧ w.cell? ⟨q, 1, none⟩ = some (.slice u.I ρ.inn.length u.ic) := by
  obtain ⟨r, u, _, h2, _⟩ := h
  exact ⟨u, h2.c0, h2.c1⟩
theorem PQ.left (h : PQ n w0 p q s ρ C w) {r : SR} {u : RR} (h1 : IsStore n w p r s) (h2 : IsRef n w q u ρ) (h3 : ∀ k, r.foot p k → ¬ u.foot q k) (h4 : ∀ x ∈ C, w.heap[x.1]? = some x.2 ∧ ¬ r.foot p x.1 ∧ ¬ u.foot q x.1) {s' : MS} {w' : World} (ho : OUT n w p r s' w') : PQ n w0 p q s' ρ C w' := by
  obtain ⟨r', g1, g2, g3⟩ := ho
  have hs := h.since
  obtain ⟨_, _, _, _, _, _, _, hn, ht⟩ := h
  have hk : Since n w w' := Keep.mono g2 h1.low
  refine ⟨r', u, g1, h2.keep g2 (fun k hk hf => h3 k hf hk), Keep.trans hs hk, fun k hk hu => ?_, fun x hx => ?_, hn, ht.since hk hn⟩
  · rcases g3 k hk with h5 | h5
    · exact h3 k h5 hu
    · have := h2.foot_lt k hu; omega
  · obtain ⟨a1, a2, a3⟩ := h4 x hx
    refine ⟨(g2.block _ (blk_lt a1) a2).trans a1, fun hf => ?_, a3⟩
    rcases g3 _ hf with h5 | h5
    · exact a2 h5
    · have := blk_lt a1; omega
theorem PQ.right (h : PQ n w0 p q s ρ C w) {r : SR} {u : RR} (h1 : IsStore n w p r s) (h2 : IsRef n w q u ρ) (h3 : ∀ k, r.foot p k → ¬ u.foot q k) (h4 : ∀ x ∈ C, w.heap[x.1]? = some x.2 ∧ ¬ r.foot p x.1 ∧ ¬ u.foot q x.1) {ρ' : RS} {w' : World} (ho : ∃ u', IsRef n w' q u' ρ' ∧ Keep (u.foot q) w w' ∧ ∀ i, u'.foot q i → u.foot q i ∨ w.heap.size ≤ i) : PQ n w0 p q s ρ' C w' := by
  obtain ⟨u', g1, g2, g3⟩ := ho
  have hs := h.since
  obtain ⟨_, _, _, _, _, _, _, hn, ht⟩ := h
  have hk : Since n w w' := Keep.mono g2 h2.low
  refine ⟨r, u', h1.keep g2 (fun k hk hf => h3 k hk hf), g1, Keep.trans hs hk, fun k hk hu => ?_, fun x hx => ?_, hn, ht.since hk hn⟩
  · rcases g3 k hu with h5 | h5
    · exact h3 k hk h5
    · have := h1.foot_lt k hk; omega
  · obtain ⟨a1, a2, a3⟩ := h4 x hx
    refine ⟨(g2.block _ (blk_lt a1) a3).trans a1, a2, fun hf => ?_⟩
    rcases g3 _ hf with h5 | h5
    · exact a3 h5
    · have := blk_lt a1; omega
theorem PQ.later (h : PQ n w0 p q s ρ C w) {w' : World} (hk : Since w.heap.size w w') : PQ n w0 p q s ρ C w' := by
  have hl := h.low
  obtain ⟨r, u, h1, h2, h3, h4, h5, hn, ht⟩ := h
  exact ⟨r, u, h1.since hk, h2.since hk, Keep.trans h3 (Since.mono hk hl), h4, fun x hx => ⟨(hk.block _ (blk_lt (h5 x hx).1) (by have := blk_lt (h5 x hx).1; omega)).trans (h5 x hx).1, (h5 x hx).2⟩, hn, ht.since hk (by omega)⟩
theorem PQ.quiet (h : PQ n w0 p q s ρ C w) {w' : World} (hk : Keep (fun _ => False) w w') : PQ n w0 p q s ρ C w' := h.later (Since.of hk)
theorem PQ.more (h : PQ n w0 p q s ρ C w) (o : Obj) : PQ n w0 p q s ρ ((w.heap.size, o) :: C) (w.alloc o) := by
  have hq := h.quiet ((Keep.refl (fun _ => False) w).alloc' o)
  obtain ⟨r, u, h1, h2, h3, h4, h5, hn, ht⟩ := h
  have k := (Keep.refl (fun _ => False) w).alloc' o
  refine ⟨r, u, h1.quiet k, h2.quiet k, Keep.trans h3 (Since.of k), h4, fun x hx => ?_, hn, ht.since (Since.of k) hn⟩
  rcases List.mem_cons.1 hx with rfl | hx
  · exact ⟨heap_alloc_new w o, fun hf => by have := h1.foot_lt _ hf; simp at this, fun hf => by have := h2.foot_lt _ hf; simp at this⟩
  · exact ⟨(k.block _ (blk_lt (h5 x hx).1) id).trans (h5 x hx).1, (h5 x hx).2⟩
theorem PQ.less (h : PQ n w0 p q s ρ C w) {C' : List (Nat × Obj)} (hC : ∀ x ∈ C', x ∈ C) : PQ n w0 p q s ρ C' w := by
  obtain ⟨r, u, h1, h2, h3, h4, h5, hn, ht⟩ := h
  exact ⟨r, u, h1, h2, h3, h4, fun x hx => h5 x (hC x hx), hn, ht⟩
theorem pSafe (h : PQ n w0 p q ρ.abs ρ C w) (c : Int) : Calls Tryd.prog 19 #[.pointer (some ⟨p, 0, none⟩), .int .i64 c] w fun e w' => e = .returned (.int .i64 (ρ.safeR c).1) ∧ PQ n w0 p q (ρ.safeR c).2.abs ρ C w' := by
  obtain ⟨r, u, h1, h2, h3, h4, h5, _⟩ := id h
  exact (iSafe h1 h.ok c).mono fun e w' ⟨a, b⟩ => ⟨a, h.left h1 h2 h4 h5 b⟩
theorem pLeave (h : PQ n w0 p q ρ.abs ρ C w) (c : Int) : Calls Tryd.prog 17 #[.pointer (some ⟨p, 0, none⟩), .int .i64 c] w fun e w' => e = .returned (.int .i64 (ρ.leaveR c).1) ∧ PQ n w0 p q (ρ.leaveR c).2.abs ρ C w' := by
  obtain ⟨r, u, h1, h2, h3, h4, h5, _⟩ := id h
  exact (iLeave h1 h.ok c).mono fun e w' ⟨a, b⟩ => ⟨a, h.left h1 h2 h4 h5 b⟩
theorem pDrop (h : PQ n w0 p q ρ.abs ρ C w) (c : Int) : Calls Tryd.prog 22 #[.pointer (some ⟨p, 0, none⟩), .int .i64 c] w fun e w' => e = .returned (.int .i64 (ρ.dropR c).1) ∧ PQ n w0 p q (ρ.dropR c).2.abs ρ C w' := by
  obtain ⟨r, u, h1, h2, h3, h4, h5, _⟩ := id h
  exact (iDrop h1 h.ok c).mono fun e w' ⟨a, b⟩ => ⟨a, h.left h1 h2 h4 h5 b⟩
theorem pEnter (h : PQ n w0 p q ρ.abs ρ C w) (c i : Int) : Calls Tryd.prog 16 #[.pointer (some ⟨p, 0, none⟩), .int .i64 c, .int .i64 i] w fun e w' => e = .returned (.tuple #[.string (sb (ρ.enterR c i).1), .int .i64 (ρ.enterR c i).2.1]) ∧ PQ n w0 p q (ρ.enterR c i).2.2.abs ρ C w' := by
  obtain ⟨r, u, h1, h2, h3, h4, h5, _⟩ := id h
  exact (iEnter h1 h.ok c i).mono fun e w' ⟨a, b⟩ => ⟨a, h.left h1 h2 h4 h5 b⟩
theorem pPatch (h : PQ n w0 p q ρ.abs ρ C w) (i t : Int) (b : Bytes) (hat : -1000 ≤ t ∧ t ≤ 1000) (hbl : b.length ≤ 1000) : Calls Tryd.prog 18 #[.pointer (some ⟨p, 0, none⟩), .int .i64 i, .int .i64 t, .string (sb b)] w fun e w' => e = .returned (.int .i64 (ρ.patchR i t b).1) ∧ PQ n w0 p q (ρ.patchR i t b).2.abs ρ C w' := by
  obtain ⟨r, u, h1, h2, h3, h4, h5, _⟩ := id h
  exact (iPatch h1 h.ok i t b hat hbl).mono fun e w' ⟨a, b⟩ => ⟨a, h.left h1 h2 h4 h5 b⟩
theorem pAdd (h : PQ n w0 p q ρ.abs ρ C w) (b : Bytes) (x : MX) (hbl : b.length ≤ 100000) (hl : ρ.L.length < 1000000) : Calls Tryd.prog 21 #[.pointer (some ⟨p, 0, none⟩), modV b x] w fun e w' => e = .returned (.tuple #[.int .i64 (ρ.addR b).1, .int .i64 (ρ.addR b).2.1]) ∧ PQ n w0 p q (ρ.addR b).2.2.abs ρ C w' := by
  obtain ⟨r, u, h1, h2, h3, h4, h5, _⟩ := id h
  exact (iAdd h1 h.ok b x hbl hl).mono fun e w' ⟨a, b⟩ => ⟨a, h.left h1 h2 h4 h5 b⟩
theorem qSafe (h : PQ n w0 p q s ρ C w) (c : Int) : Calls Tryd.prog 47 #[.pointer (some ⟨q, 0, none⟩), .int .i64 c] w fun e w' => e = .returned (.int .i64 (ρ.safeR c).1) ∧ PQ n w0 p q s (ρ.safeR c).2 C w' := by
  obtain ⟨r, u, h1, h2, h3, h4, h5, _⟩ := id h
  exact (rsafe_any h2 c).mono fun e w' ⟨a, b⟩ => ⟨a, h.right h1 h2 h4 h5 b⟩
theorem qLeave (h : PQ n w0 p q s ρ C w) (c : Int) : Calls Tryd.prog 49 #[.pointer (some ⟨q, 0, none⟩), .int .i64 c] w fun e w' => e = .returned (.int .i64 (ρ.leaveR c).1) ∧ PQ n w0 p q s (ρ.leaveR c).2 C w' := by
  obtain ⟨r, u, h1, h2, h3, h4, h5, _⟩ := id h
  exact (rleave_any h2 c).mono fun e w' ⟨a, b, d⟩ => ⟨a, h.right h1 h2 h4 h5 ⟨u, b, d, fun _ => .inl⟩⟩
theorem qDrop (h : PQ n w0 p q s ρ C w) (c : Int) : Calls Tryd.prog 50 #[.pointer (some ⟨q, 0, none⟩), .int .i64 c] w fun e w' => e = .returned (.int .i64 (ρ.dropR c).1) ∧ PQ n w0 p q s (ρ.dropR c).2 C w' := by
  obtain ⟨r, u, h1, h2, h3, h4, h5, _⟩ := id h
  exact (rdrop_any h2 c).mono fun e w' ⟨a, b⟩ => ⟨a, h.right h1 h2 h4 h5 b⟩
theorem qEnter (h : PQ n w0 p q s ρ C w) (c i : Int) : Calls Tryd.prog 48 #[.pointer (some ⟨q, 0, none⟩), .int .i64 c, .int .i64 i] w fun e w' => e = .returned (.tuple #[.string (sb (ρ.enterR c i).1), .int .i64 (ρ.enterR c i).2.1]) ∧ PQ n w0 p q s (ρ.enterR c i).2.2 C w' := by
  obtain ⟨r, u, h1, h2, h3, h4, h5, _⟩ := id h
  exact (renter_any h2 c i).mono fun e w' ⟨a, b, d⟩ => ⟨a, h.right h1 h2 h4 h5 ⟨u, b, d, fun _ => .inl⟩⟩
theorem qPatch (h : PQ n w0 p q s ρ C w) (i t : Int) (b : Bytes) (hat : -1000 ≤ t ∧ t ≤ 1000) (hbl : b.length ≤ 1000) : Calls Tryd.prog 52 #[.pointer (some ⟨q, 0, none⟩), .int .i64 i, .int .i64 t, .string (sb b)] w fun e w' => e = .returned (.int .i64 (ρ.patchR i t b).1) ∧ PQ n w0 p q s (ρ.patchR i t b).2 C w' := by
  obtain ⟨r, u, h1, h2, h3, h4, h5, _⟩ := id h
  exact (rpatch_any h2 i t b hat hbl).mono fun e w' ⟨a, b⟩ => ⟨a, h.right h1 h2 h4 h5 b⟩
theorem qAdd (h : PQ n w0 p q s ρ C w) (b : Bytes) (x : MX) (hx : (mcells b x).toArray.all (·.oneCell') = true) (hbl : b.length ≤ 100000) (hl : ρ.L.length < 1000000) : Calls Tryd.prog 54 #[.pointer (some ⟨q, 0, none⟩), modV b x] w fun e w' => e = .returned (.tuple #[.int .i64 (ρ.addR b).1, .int .i64 (ρ.addR b).2.1]) ∧ PQ n w0 p q s (ρ.addR b).2.2 C w' := by
  obtain ⟨r, u, h1, h2, h3, h4, h5, _⟩ := id h
  exact (radd_any h2 b x hx hbl hl).mono fun e w' ⟨a, b⟩ => ⟨a, h.right h1 h2 h4 h5 b⟩
theorem pText (h : PQ n w0 p q s ρ C w) : Calls Tryd.prog 20 #[.pointer (some ⟨p, 0, none⟩)] w fun e w' => e = .returned (.string (sb (textOf s.all s.inn))) ∧ PQ n w0 p q s ρ C w' := by
  obtain ⟨r, u, h1, _⟩ := id h
  exact (itext_any h1 h.tb).mono fun e w' ⟨a, b⟩ => ⟨a, h.later b⟩
theorem qText (h : PQ n w0 p q s ρ C w) (hl : ρ.L.length ≤ 1000) : Calls Tryd.prog 26 #[.pointer (some ⟨q, 0, none⟩)] w fun e w' => e = .returned (.string (sb (textOf ρ.abs.all ρ.inn))) ∧ PQ n w0 p q s ρ C w' := by
  obtain ⟨r, u, _, h2, _⟩ := id h
  exact (rtext_any h2 hl).mono fun e w' ⟨a, b⟩ => ⟨a, h.quiet b⟩
theorem pFree (h : PQ n w0 p q s ρ C w) : Calls Tryd.prog 13 #[.pointer (some ⟨p, 0, none⟩)] w fun e w' => e = .returned (.int .i64 ((16 * frees (takenB s.all) 256 : Nat) : Int)) ∧ PQ n w0 p q s ρ C w' := by
  obtain ⟨r, u, h1, _⟩ := id h
  exact (free_any h1).mono fun e w' ⟨a, b⟩ => ⟨a, h.later b⟩
theorem qFree (h : PQ n w0 p q s ρ C w) : Calls Tryd.prog 14 #[.pointer (some ⟨q, 0, none⟩)] w fun e w' => e = .returned (.int .i64 ((16 * frees (takenB ρ.abs.all) 256 : Nat) : Int)) ∧ PQ n w0 p q s ρ C w' := by
  obtain ⟨r, u, _, h2, _⟩ := id h
  exact (rfree_any h2).mono fun e w' ⟨a, b⟩ => ⟨a, h.quiet b⟩
theorem pLive (h : PQ n w0 p q s ρ C w) : Calls Tryd.prog 11 #[.pointer (some ⟨p, 0, none⟩)] w fun e w' => (∃ A c, e = .returned (.slice A (liveL s.all).length c) ∧ w'.ownsRow w.heap.size 3 1 (.slice A (liveL s.all).length c) (liveL s.all).length (ints (liveL s.all))) ∧ PQ n w0 p q s ρ C w' ∧ Since w.heap.size w w' := by
  obtain ⟨r, u, h1, _⟩ := id h
  exact (live_any h1).mono fun e w' ⟨a, b⟩ => ⟨a, h.later b, b⟩
theorem qLive (h : PQ n w0 p q s ρ C w) : Calls Tryd.prog 12 #[.pointer (some ⟨q, 0, none⟩)] w fun e w' => (∃ A c, e = .returned (.slice A (liveL ρ.abs.all).length c) ∧ w'.ownsRow w.heap.size 3 1 (.slice A (liveL ρ.abs.all).length c) (liveL ρ.abs.all).length (ints (liveL ρ.abs.all))) ∧ PQ n w0 p q s ρ C w' ∧ Since w.heap.size w w' := by
  obtain ⟨r, u, _, h2, _⟩ := id h
  exact (rlive_any h2).mono fun e w' ⟨a, b⟩ => ⟨a, h.later b, b⟩
end
end Go.Proofs.YtnhajhejkecihaaDoor
/- Install: do: an act on a store and its reference. -/
namespace Go.Proofs.YtnhajhejkecihaaDoor
open Go.RowKit
set_option linter.unusedVariables false
set_option linter.unusedSimpArgs false

theorem len_put (ρ : RS) (i : Nat) (e : ME) : (ρ.put i e).L.length = ρ.L.length := by simp [RS.put]
theorem len_passed (ρ : RS) (c : Nat) : (ρ.passed c).L.length = ρ.L.length := by simp [RS.passed]
theorem len_enter (ρ : RS) (c i : Int) : (ρ.enterR c i).2.2.L.length = ρ.L.length := by
  unfold RS.enterR
  split
  · rfl
  · split
    · rfl
    · split
      · rfl
      · split <;> rfl
theorem len_leave (ρ : RS) (c : Int) : (ρ.leaveR c).2.L.length = ρ.L.length := by
  unfold RS.leaveR
  split
  · rfl
  · split <;> rfl
theorem len_safe (ρ : RS) (c : Int) : (ρ.safeR c).2.L.length = ρ.L.length := by
  unfold RS.safeR
  split
  · rfl
  · split
    · rfl
    · exact len_passed _ _
theorem len_drop (ρ : RS) (i : Int) : (ρ.dropR i).2.L.length = ρ.L.length := by
  unfold RS.dropR
  split
  · rfl
  · exact len_put _ _ _
theorem len_patch (ρ : RS) (i t : Int) (b : Bytes) : (ρ.patchR i t b).2.L.length = ρ.L.length := by
  unfold RS.patchR
  split
  · rfl
  · split
    · rfl
    · split
      · rfl
      · exact len_put _ _ _
theorem len_add (ρ : RS) (b : Bytes) : (ρ.addR b).2.2.L.length ≤ ρ.L.length + 1 := by
  unfold RS.addR
  split
  · simp
  · split
    · simp
    · split
      · simp
      · simp [RS.added]
theorem actLen_le (wh nn : Int) : actLen wh nn ≤ 5000 := by unfold actLen; split <;> omega
set_option maxRecDepth 100000 in
set_option maxHeartbeats 16000000 in
theorem do_any {n : Nat} {w0 w : World} {p q : Nat} {ρ : RS} {C : List (Nat × Obj)} (h : PQ n w0 p q ρ.abs ρ C w) (hl : ρ.L.length ≤ 900) (wh a nn : Int) (h1 : I64 wh) (h2 : I64 a) (h3 : I64 nn) :
    Calls Tryd.prog 25 #[.agg #[.int .i64 wh, .int .i64 a, .int .i64 nn], .pointer (some ⟨p, 0, none⟩), .pointer (some ⟨q, 0, none⟩)] w fun e w' => e = .returned (.bool true) ∧ ∃ ρ' : RS, PQ n w0 p q ρ'.abs ρ' C w' ∧ ρ'.L.length ≤ ρ.L.length + 1 := by
  have P0 := Lib.hid (h.more (.cells #[.int .i64 wh, .int .i64 a, .int .i64 nn] 69))
  obtain ⟨N, hN⟩ : ∃ N, ρ.L.length = N := ⟨_, rfl⟩
  have HN := Lib.hid hN
  rw [hN] at hl ⊢
  obtain ⟨c, hc⟩ : ∃ c, a % 5 = c := ⟨_, rfl⟩
  obtain ⟨iv, hiv⟩ : ∃ iv, nn % ((N : Int) + 2) = iv := ⟨_, rfl⟩
  obtain ⟨d, hd⟩ : ∃ d, wh % 10 = d := ⟨_, rfl⟩
  have hivb : 0 ≤ iv ∧ iv < (N : Int) + 2 := by rw [← hiv]; exact ⟨Int.emod_nonneg _ (by omega), Int.emod_lt_of_pos _ (by omega)⟩
  have hcb : 0 ≤ c ∧ c < 5 := by omega
  have hdb : 0 ≤ d ∧ d < 10 := by omega
  have M1 := Lib.hid (fun W => mod_any W a 5 (by omega) (by omega) h2)
  have M2 := Lib.hid (fun W => mod_any W nn ((N : Int) + 2) (by omega) (by omega) h3)
  have M3 := Lib.hid (fun W => mod_any W wh 10 (by omega) (by omega) h1)
  rw [hc] at M1
  rw [hiv] at M2
  rw [hd] at M3
  have HI := Lib.hid (And.intro h1 (And.intro h2 h3))
  have HW2 := Lib.hid (show IntKind.i64.wrap ((N : Int) + 2) = (N : Int) + 2 by rw [IntKind.wrap_i64]; omega)
  have HW1 := Lib.hid (show IntKind.i64.wrap (iv - 1) = iv - 1 by rw [IntKind.wrap_i64]; omega)
  obtain ⟨tm, htm⟩ : ∃ tm, a.tmod 40 = tm := ⟨_, rfl⟩
  have htb : -40 < tm ∧ tm < 40 := by
    rw [← htm]
    exact ⟨Int.lt_tmod_of_pos a (by omega), Int.tmod_lt_of_pos a (by omega)⟩
  have HTM := Lib.hid htm
  have HTW := Lib.hid (show IntKind.i64.wrap tm = tm by rw [IntKind.wrap_i64]; omega)
  obtain ⟨w1, hw1⟩ : ∃ w1, w.alloc (.cells #[.int .i64 wh, .int .i64 a, .int .i64 nn] 69) = w1 := ⟨_, rfl⟩
  obtain ⟨B, hB⟩ : ∃ B, w.heap.size = B := ⟨_, rfl⟩
  have HE := Lib.hid (And.intro hw1 hB)
  have P := P0
  rw [hw1, hB] at P
  obtain ⟨CC, hCC⟩ : ∃ CC, (B, Obj.cells #[.int .i64 wh, .int .i64 a, .int .i64 nn] 69 (0, 0)) :: C = CC := ⟨_, rfl⟩
  have HMB := Lib.hid (show (B, Obj.cells #[.int .i64 wh, .int .i64 a, .int .i64 nn] 69 (0, 0)) ∈ CC by rw [← hCC]; exact List.mem_cons_self)
  have HLS := Lib.hid (show ∀ x ∈ C, x ∈ CC by rw [← hCC]; exact fun x hx => List.mem_cons_of_mem _ hx)
  rw [hCC] at P
  have hact := P.out.at_ HMB.out
  have b1 : w1.cell? ⟨B, 1, none⟩ = some (.int .i64 a) := (blk_cell hact 1).trans rfl
  have b0 : w1.cell? ⟨B, 0, none⟩ = some (.int .i64 wh) := (blk_cell hact 0).trans rfl
  have B0 := Lib.hid b0
  have HACT := Lib.hid hact
  have B1 := Lib.hid b1
  clear P0 h hN hc hiv hd h1 h2 h3 htm hw1 hB hCC hact b0 b1
  go_enter Tryd.func25, Tryd.ntmps25
  go_upto_region 1 with (fail)
  rw [HE.out.1]
  try rw [HE.out.2]
  have b1 := B1.out
  go_wp2_with fail
  ((with_reducible refine (M1.out _).mono ?_); rintro ee w' ⟨rfl, rfl⟩)
  clear b1
  go_upto_region 2 with (fail)
  obtain ⟨u, hu0, hu1⟩ := P.out.hdr
  rw [HN.out] at hu0
  have HU := Lib.hid hu0
  clear hu0 hu1
  refine wp_region_drewU (S := (fun w' => Hid (Keep (fun _ => False) w1 w'))) (D := []) (by kernel_rfl) (by exact Lib.hid (keep_draw _ w1)) (fun hH => ?_)
  refine wpAnyU_take (i := 0) (v := ?_) rfl (by kernel_rfl) (by kernel_rfl) (by kernel_rfl) (by kernel_rfl) (fun _ _ _ h => h) (Or.inl ⟨by rfl, ?_⟩) hH ?_
  rotate_left
  · (intro w'' hSw; (try dsimp only at hSw); go_simp; try with_reducible rfl)
  change wpAnyU _ _ _ _ _ _ _ _ (Act.put _ (some 20) _) _
  try simp only [Act.put, List.setIfInBounds_toArray, List.set_cons_zero, List.set_cons_succ]
  refine wpAnyU_take (i := 1) (v := ?_) rfl (by kernel_rfl) (by kernel_rfl) (by kernel_rfl) (by kernel_rfl) (fun _ _ _ h => h) (Or.inl ⟨by rfl, ?_⟩) hH ?_
  rotate_left
  · (intro w'' hSw; have q := (blk_cell (((hSw.out.block B (blk_lt HACT.out) (fun hh => hh)).trans HACT.out)) 2).trans (show _ = some (Value.int .i64 nn) from rfl); go_simp; try with_reducible rfl)
  change wpAnyU _ _ _ _ _ _ _ _ (Act.put _ (some 21) _) _
  try simp only [Act.put, List.setIfInBounds_toArray, List.set_cons_zero, List.set_cons_succ]
  refine wpAnyU_take (i := 2) (v := ?_) rfl (by kernel_rfl) (by kernel_rfl) (by kernel_rfl) (by kernel_rfl) (fun _ _ _ h => h) (Or.inl ⟨by rfl, ?_⟩) hH ?_
  rotate_left
  · (intro w'' hSw; (try dsimp only at hSw); go_simp; try with_reducible rfl)
  change wpAnyU _ _ _ _ _ _ _ _ (Act.put _ (some 22) _) _
  try simp only [Act.put, List.setIfInBounds_toArray, List.set_cons_zero, List.set_cons_succ]
  refine wpAnyU_take (i := 3) (v := ?_) rfl (by kernel_rfl) (by kernel_rfl) (by kernel_rfl) (by kernel_rfl) (fun _ _ _ h => h) (Or.inl ⟨by rfl, ?_⟩) hH ?_
  rotate_left
  · (intro w'' hSw; (try dsimp only at hSw); go_simp; try with_reducible rfl)
  change wpAnyU _ _ _ _ _ _ _ _ (Act.put _ (some 23) _) _
  try simp only [Act.put, List.setIfInBounds_toArray, List.set_cons_zero, List.set_cons_succ]
  refine wpAnyU_take (i := 4) (v := ?_) rfl (by kernel_rfl) (by kernel_rfl) (by kernel_rfl) (by kernel_rfl) (fun _ _ _ h => h) (Or.inl ⟨by rfl, ?_⟩) hH ?_
  rotate_left
  · (intro w'' hSw; (try dsimp only at hSw); go_simp; try with_reducible rfl)
  change wpAnyU _ _ _ _ _ _ _ _ (Act.put _ (some 24) _) _
  try simp only [Act.put, List.setIfInBounds_toArray, List.set_cons_zero, List.set_cons_succ]
  refine wpAnyU_take (i := 5) (v := ?_) rfl (by kernel_rfl) (by kernel_rfl) (by kernel_rfl) (by kernel_rfl) (fun _ _ _ h => h) (Or.inl ⟨by rfl, ?_⟩) hH ?_
  rotate_left
  · (intro w'' hSw; have q := cell_kept hSw.out HU.out (fun hh => hh); go_simp; try with_reducible rfl)
  change wpAnyU _ _ _ _ _ _ _ _ (Act.put _ (some 25) _) _
  try simp only [Act.put, List.setIfInBounds_toArray, List.set_cons_zero, List.set_cons_succ]
  refine wpAnyU_take (i := 6) (v := ?_) rfl (by kernel_rfl) (by kernel_rfl) (by kernel_rfl) (by kernel_rfl) (fun _ _ _ h => h) (Or.inl ⟨by rfl, ?_⟩) hH ?_
  rotate_left
  · (intro w'' hSw; (try dsimp only at hSw); go_simp; try with_reducible rfl)
  change wpAnyU _ _ _ _ _ _ _ _ (Act.put _ (some 26) _) _
  try simp only [Act.put, List.setIfInBounds_toArray, List.set_cons_zero, List.set_cons_succ]
  refine wpAnyU_take (i := 7) (v := ?_) rfl (by kernel_rfl) (by kernel_rfl) (by kernel_rfl) (by kernel_rfl) (fun _ _ _ h => h) (Or.inl ⟨by rfl, ?_⟩) hH ?_
  rotate_left
  · (intro w'' hSw; have q := HW2.out; go_simp; try with_reducible rfl)
  change wpAnyU _ _ _ _ _ _ _ _ (Act.put _ (some 27) _) _
  try simp only [Act.put, List.setIfInBounds_toArray, List.set_cons_zero, List.set_cons_succ]
  refine wpAnyU_ready (rs := [8]) (by kernel_rfl) (by simp) ?_
  refine AllReadyU.cons rfl (fun Kn hKn => ?_) AllReadyU.nil
  go_simp
  go_at_call 46
  (with_reducible refine (M2.out _).mono ?_)
  rintro ee w2 ⟨rfl, rfl⟩
  refine hKn.out _ _ ?_ (fun hH => ?_)
  · (exact hH)
  clear hKn Kn
  try simp only [Act.put, List.setIfInBounds_toArray, List.set_cons_zero, List.set_cons_succ]
  refine wpAnyU_take (i := 9) (v := ?_) rfl (by kernel_rfl) (by kernel_rfl) (by kernel_rfl) (by kernel_rfl) (fun _ _ _ h => h) (Or.inl ⟨by rfl, ?_⟩) hH ?_
  rotate_left
  · (intro w'' hSw; have q := HW1.out; go_simp; try with_reducible rfl)
  change wpAnyU _ _ _ _ _ _ _ _ (Act.put _ (some 29) _) _
  try simp only [Act.put, List.setIfInBounds_toArray, List.set_cons_zero, List.set_cons_succ]
  refine wpAnyU_take (i := 10) (v := ?_) rfl (by kernel_rfl) (by kernel_rfl) (by kernel_rfl) (by kernel_rfl) (fun _ _ _ h => h) (Or.inl ⟨by rfl, ?_⟩) hH ?_
  rotate_left
  · (intro w'' hSw; (try dsimp only at hSw); go_simp; try with_reducible rfl)
  change wpAnyU _ _ _ _ _ _ _ _ (Act.put _ (some 8) _) _
  try simp only [Act.put, List.setIfInBounds_toArray, List.set_cons_zero, List.set_cons_succ]
  refine wpAnyU_done (by kernel_rfl) ?_ _
  have PD := Lib.hid (P.out.quiet (keep_draw (fun _ => False) w1))
  have b0 : w1.drew.cell? ⟨B, 0, none⟩ = some (.int .i64 wh) := B0.out
  obtain ⟨w3, hw3⟩ : ∃ w3, w1.drew = w3 := ⟨_, rfl⟩
  rw [hw3] at PD b0 ⊢
  have HU3 := Lib.hid (show w3.cell? ⟨q, 0, none⟩ = some (.slice u.A N u.ac) by rw [← hw3]; exact HU.out)
  clear hw3 P HU
  go_wp2_with fail
  ((with_reducible refine (M3.out _).mono ?_); rintro ee w' ⟨rfl, rfl⟩)
  obtain ⟨i, hi⟩ : ∃ i, iv - 1 = i := ⟨_, rfl⟩
  rw [hi]
  have HID := Lib.hid hi
  clear hi b0
  have HACT3 := Lib.hid (PD.out.at_ HMB.out)
  rcases (show d = 0 ∨ d = 1 ∨ d = 2 ∨ d = 3 ∨ d = 4 ∨ d = 5 ∨ d = 6 ∨ d = 7 ∨ d = 8 ∨ d = 9 by omega) with rfl | rfl | rfl | rfl | rfl | rfl | rfl | rfl | rfl | rfl
  · have HMO := Lib.hid (fun W => amodule_any W wh a nn HI.out.1 HI.out.2.1 HI.out.2.2)
    obtain ⟨bb, hbb⟩ : ∃ bb, modB a (actLen wh nn) = bb := ⟨_, rfl⟩
    have hbl : bb.length ≤ 100000 := by rw [← hbb, modB_length]; have := actLen_le wh nn; omega
    rw [hbb] at HMO
    have HLEN := Lib.hid (len_add ρ bb)
    obtain ⟨R, hR⟩ : ∃ R, ρ.addR bb = R := ⟨_, rfl⟩
    have HRR := Lib.hid hR
    rw [hR] at HLEN
    obtain ⟨⟨v1, v2, ρ'⟩, rfl⟩ : ∃ x : Int × Int × RS, x = R := ⟨_, rfl⟩
    dsimp only at HLEN
    have z0 : w3.cell? ⟨B, 0, none⟩ = some (.int .i64 wh) := (blk_cell HACT3.out 0).trans rfl
    have z1 : w3.cell? ⟨B, 1, none⟩ = some (.int .i64 a) := (blk_cell HACT3.out 1).trans rfl
    have z2 : w3.cell? ⟨B, 2, none⟩ = some (.int .i64 nn) := (blk_cell HACT3.out 2).trans rfl
    clear hbb hR
    go_wp2_with fail
    ((with_reducible refine (HMO.out _).mono ?_); rintro ee w4 ⟨x, hx, rfl, hk4⟩)
    have HP4 := Lib.hid (PD.out.later hk4)
    have HAD := Lib.hid (pAdd HP4.out bb x hbl (by rw [HN.out]; omega))
    rw [HRR.out] at HAD
    obtain ⟨mv, hmv⟩ : ∃ mv, modV bb x = mv := ⟨_, rfl⟩
    rw [hmv] at HAD ⊢
    clear hk4 hx hmv z0 z1 z2
    go_wp2_with fail
    ((refine (show Calls Tryd.prog _ _ w4 (fun e w' => e = .returned (.tuple #[.int .i64 v1, .int .i64 v2]) ∧ PQ n w0 p q ρ'.abs ρ CC w') from HAD.out).mono ?_); rintro ee w5 ⟨rfl, hp⟩)
    have HP5 := Lib.hid hp
    have hact5 := hp.at_ HMB.out
    have z0 : w5.cell? ⟨B, 0, none⟩ = some (.int .i64 wh) := (blk_cell hact5 0).trans rfl
    have z1 : w5.cell? ⟨B, 1, none⟩ = some (.int .i64 a) := (blk_cell hact5 1).trans rfl
    have z2 : w5.cell? ⟨B, 2, none⟩ = some (.int .i64 nn) := (blk_cell hact5 2).trans rfl
    clear hp hact5
    go_wp2_with fail
    ((with_reducible refine (HMO.out _).mono ?_); rintro ee w6 ⟨x2, hx2, rfl, hk6⟩)
    have HP6 := Lib.hid (HP5.out.later hk6)
    have HAQ := Lib.hid (qAdd HP6.out bb x2 hx2 hbl (by rw [HN.out]; omega))
    rw [HRR.out] at HAQ
    obtain ⟨mv2, hmv⟩ : ∃ mv, modV bb x2 = mv := ⟨_, rfl⟩
    rw [hmv] at HAQ ⊢
    clear hk6 hx2 hmv z0 z1 z2
    go_wp2_with fail
    ((refine (show Calls Tryd.prog _ _ w6 (fun e w' => e = .returned (.tuple #[.int .i64 v1, .int .i64 v2]) ∧ PQ n w0 p q ρ'.abs ρ' CC w') from HAQ.out).mono ?_); rintro ee w7 ⟨rfl, hp⟩)
    have HF := Lib.hid hp
    clear hp
    go_wp2_with fail
    go_ret
    exact ⟨rfl, ρ', HF.out.less HLS.out, by have := HLEN.out; have := HN.out; omega⟩
  · have HMO := Lib.hid (fun W => amodule_any W wh a nn HI.out.1 HI.out.2.1 HI.out.2.2)
    obtain ⟨bb, hbb⟩ : ∃ bb, modB a (actLen wh nn) = bb := ⟨_, rfl⟩
    have hbl : bb.length ≤ 100000 := by rw [← hbb, modB_length]; have := actLen_le wh nn; omega
    rw [hbb] at HMO
    have HLEN := Lib.hid (len_add ρ bb)
    obtain ⟨R, hR⟩ : ∃ R, ρ.addR bb = R := ⟨_, rfl⟩
    have HRR := Lib.hid hR
    rw [hR] at HLEN
    obtain ⟨⟨v1, v2, ρ'⟩, rfl⟩ : ∃ x : Int × Int × RS, x = R := ⟨_, rfl⟩
    dsimp only at HLEN
    have z0 : w3.cell? ⟨B, 0, none⟩ = some (.int .i64 wh) := (blk_cell HACT3.out 0).trans rfl
    have z1 : w3.cell? ⟨B, 1, none⟩ = some (.int .i64 a) := (blk_cell HACT3.out 1).trans rfl
    have z2 : w3.cell? ⟨B, 2, none⟩ = some (.int .i64 nn) := (blk_cell HACT3.out 2).trans rfl
    clear hbb hR
    go_wp2_with fail
    ((with_reducible refine (HMO.out _).mono ?_); rintro ee w4 ⟨x, hx, rfl, hk4⟩)
    have HP4 := Lib.hid (PD.out.later hk4)
    have HAD := Lib.hid (pAdd HP4.out bb x hbl (by rw [HN.out]; omega))
    rw [HRR.out] at HAD
    obtain ⟨mv, hmv⟩ : ∃ mv, modV bb x = mv := ⟨_, rfl⟩
    rw [hmv] at HAD ⊢
    clear hk4 hx hmv z0 z1 z2
    go_wp2_with fail
    ((refine (show Calls Tryd.prog _ _ w4 (fun e w' => e = .returned (.tuple #[.int .i64 v1, .int .i64 v2]) ∧ PQ n w0 p q ρ'.abs ρ CC w') from HAD.out).mono ?_); rintro ee w5 ⟨rfl, hp⟩)
    have HP5 := Lib.hid hp
    have hact5 := hp.at_ HMB.out
    have z0 : w5.cell? ⟨B, 0, none⟩ = some (.int .i64 wh) := (blk_cell hact5 0).trans rfl
    have z1 : w5.cell? ⟨B, 1, none⟩ = some (.int .i64 a) := (blk_cell hact5 1).trans rfl
    have z2 : w5.cell? ⟨B, 2, none⟩ = some (.int .i64 nn) := (blk_cell hact5 2).trans rfl
    clear hp hact5
    go_wp2_with fail
    ((with_reducible refine (HMO.out _).mono ?_); rintro ee w6 ⟨x2, hx2, rfl, hk6⟩)
    have HP6 := Lib.hid (HP5.out.later hk6)
    have HAQ := Lib.hid (qAdd HP6.out bb x2 hx2 hbl (by rw [HN.out]; omega))
    rw [HRR.out] at HAQ
    obtain ⟨mv2, hmv⟩ : ∃ mv, modV bb x2 = mv := ⟨_, rfl⟩
    rw [hmv] at HAQ ⊢
    clear hk6 hx2 hmv z0 z1 z2
    go_wp2_with fail
    ((refine (show Calls Tryd.prog _ _ w6 (fun e w' => e = .returned (.tuple #[.int .i64 v1, .int .i64 v2]) ∧ PQ n w0 p q ρ'.abs ρ' CC w') from HAQ.out).mono ?_); rintro ee w7 ⟨rfl, hp⟩)
    have HF := Lib.hid hp
    clear hp
    go_wp2_with fail
    go_ret
    exact ⟨rfl, ρ', HF.out.less HLS.out, by have := HLEN.out; have := HN.out; omega⟩
  · obtain ⟨R, hR⟩ : ∃ R, ρ.safeR c = R := ⟨_, rfl⟩
    have HP := Lib.hid (pSafe PD.out c)
    have HLEN := Lib.hid (len_safe ρ c)
    rw [hR] at HP HLEN
    have HRR := Lib.hid hR
    obtain ⟨⟨v, ρ'⟩, rfl⟩ : ∃ x : Int × RS, x = R := ⟨_, rfl⟩
    dsimp only at HP HLEN
    clear hR
    go_wp2_with fail
    ((with_reducible refine HP.out.mono ?_); rintro ee w4 ⟨rfl, hp⟩)
    have HQ := Lib.hid (qSafe hp c)
    rw [HRR.out] at HQ
    clear hp
    go_wp2_with fail
    ((refine (show Calls Tryd.prog _ _ w4 (fun e w' => e = .returned (.int .i64 v) ∧ PQ n w0 p q ρ'.abs ρ' CC w') from HQ.out).mono ?_); rintro ee w5 ⟨rfl, hp⟩)
    have HF := Lib.hid hp
    clear hp
    go_wp2_with fail
    go_ret
    exact ⟨rfl, ρ', HF.out.less HLS.out, by have := HLEN.out; have := HN.out; omega⟩
  · obtain ⟨R, hR⟩ : ∃ R, ρ.safeR c = R := ⟨_, rfl⟩
    have HP := Lib.hid (pSafe PD.out c)
    have HLEN := Lib.hid (len_safe ρ c)
    rw [hR] at HP HLEN
    have HRR := Lib.hid hR
    obtain ⟨⟨v, ρ'⟩, rfl⟩ : ∃ x : Int × RS, x = R := ⟨_, rfl⟩
    dsimp only at HP HLEN
    clear hR
    go_wp2_with fail
    ((with_reducible refine HP.out.mono ?_); rintro ee w4 ⟨rfl, hp⟩)
    have HQ := Lib.hid (qSafe hp c)
    rw [HRR.out] at HQ
    clear hp
    go_wp2_with fail
    ((refine (show Calls Tryd.prog _ _ w4 (fun e w' => e = .returned (.int .i64 v) ∧ PQ n w0 p q ρ'.abs ρ' CC w') from HQ.out).mono ?_); rintro ee w5 ⟨rfl, hp⟩)
    have HF := Lib.hid hp
    clear hp
    go_wp2_with fail
    go_ret
    exact ⟨rfl, ρ', HF.out.less HLS.out, by have := HLEN.out; have := HN.out; omega⟩
  · obtain ⟨R, hR⟩ : ∃ R, ρ.enterR c i = R := ⟨_, rfl⟩
    have HP := Lib.hid (pEnter PD.out c i)
    have HLEN := Lib.hid (len_enter ρ c i)
    rw [hR] at HP HLEN
    have HRR := Lib.hid hR
    obtain ⟨⟨s1, v, ρ'⟩, rfl⟩ : ∃ x : Bytes × Int × RS, x = R := ⟨_, rfl⟩
    dsimp only at HP HLEN
    obtain ⟨sv, hsv⟩ : ∃ sv, sb s1 = sv := ⟨_, rfl⟩
    rw [hsv] at HP
    have HSV := Lib.hid hsv
    clear hR hsv
    have z0 : w3.cell? ⟨B, 0, none⟩ = some (.int .i64 wh) := (blk_cell HACT3.out 0).trans rfl
    go_wp2_with fail
    ((with_reducible refine (M3.out _).mono ?_); rintro ee w' ⟨rfl, rfl⟩)
    clear z0
    go_wp2_with fail
    ((with_reducible refine HP.out.mono ?_); rintro ee w4 ⟨rfl, hp⟩)
    have HQ := Lib.hid (qEnter hp c i)
    rw [HRR.out] at HQ
    dsimp only at HQ
    rw [HSV.out] at HQ
    clear hp
    go_wp2_with fail
    ((with_reducible refine HQ.out.mono ?_); rintro ee w5 ⟨rfl, hp⟩)
    have HF := Lib.hid hp
    clear hp
    go_wp2_with fail
    go_ret
    exact ⟨rfl, ρ', HF.out.less HLS.out, by have := HLEN.out; have := HN.out; omega⟩
  · obtain ⟨R, hR⟩ : ∃ R, ρ.leaveR c = R := ⟨_, rfl⟩
    have HP := Lib.hid (pLeave PD.out c)
    have HLEN := Lib.hid (len_leave ρ c)
    rw [hR] at HP HLEN
    have HRR := Lib.hid hR
    obtain ⟨⟨v, ρ'⟩, rfl⟩ : ∃ x : Int × RS, x = R := ⟨_, rfl⟩
    dsimp only at HP HLEN
    clear hR
    go_wp2_with fail
    ((with_reducible refine HP.out.mono ?_); rintro ee w4 ⟨rfl, hp⟩)
    have HQ := Lib.hid (qLeave hp c)
    rw [HRR.out] at HQ
    clear hp
    go_wp2_with fail
    ((refine (show Calls Tryd.prog _ _ w4 (fun e w' => e = .returned (.int .i64 v) ∧ PQ n w0 p q ρ'.abs ρ' CC w') from HQ.out).mono ?_); rintro ee w5 ⟨rfl, hp⟩)
    have HF := Lib.hid hp
    clear hp
    go_wp2_with fail
    go_ret
    exact ⟨rfl, ρ', HF.out.less HLS.out, by have := HLEN.out; have := HN.out; omega⟩
  · obtain ⟨R, hR⟩ : ∃ R, ρ.dropR i = R := ⟨_, rfl⟩
    have HP := Lib.hid (pDrop PD.out i)
    have HLEN := Lib.hid (len_drop ρ i)
    rw [hR] at HP HLEN
    have HRR := Lib.hid hR
    obtain ⟨⟨v, ρ'⟩, rfl⟩ : ∃ x : Int × RS, x = R := ⟨_, rfl⟩
    dsimp only at HP HLEN
    clear hR
    go_wp2_with fail
    ((with_reducible refine HP.out.mono ?_); rintro ee w4 ⟨rfl, hp⟩)
    have HQ := Lib.hid (qDrop hp i)
    rw [HRR.out] at HQ
    clear hp
    go_wp2_with fail
    ((refine (show Calls Tryd.prog _ _ w4 (fun e w' => e = .returned (.int .i64 v) ∧ PQ n w0 p q ρ'.abs ρ' CC w') from HQ.out).mono ?_); rintro ee w5 ⟨rfl, hp⟩)
    have HF := Lib.hid hp
    clear hp
    go_wp2_with fail
    go_ret
    exact ⟨rfl, ρ', HF.out.less HLS.out, by have := HLEN.out; have := HN.out; omega⟩
  · have HAP := Lib.hid (fun W => apatch_any W wh a nn HI.out.2.1 HI.out.2.2)
    obtain ⟨bb, hbb⟩ : ∃ bb, patB a nn = bb := ⟨_, rfl⟩
    have hbl : bb.length ≤ 1000 := by rw [← hbb]; have := patB_length a nn; omega
    rw [hbb] at HAP
    have HLEN := Lib.hid (len_patch ρ i tm bb)
    obtain ⟨R, hR⟩ : ∃ R, ρ.patchR i tm bb = R := ⟨_, rfl⟩
    have HRR := Lib.hid hR
    rw [hR] at HLEN
    obtain ⟨⟨v, ρ'⟩, rfl⟩ : ∃ x : Int × RS, x = R := ⟨_, rfl⟩
    dsimp only at HLEN
    have htb2 : -1000 ≤ tm ∧ tm ≤ 1000 := by omega
    clear hbb hR
    have PX := Lib.hid (PD.out.quiet (keep_draw (fun _ => False) w3))
    go_upto_region 19 with (fail)
    refine wp_region_drewU (S := (fun w' => Hid (w'.heap[B]? = some (.cells #[.int .i64 wh, .int .i64 a, .int .i64 nn] 69 (0, 0))))) (D := []) (by kernel_rfl) (by exact Lib.hid (PX.out.at_ HMB.out)) (fun hH => ?_)
    refine wpAnyU_take (i := 0) (v := ?_) rfl (by kernel_rfl) (by kernel_rfl) (by kernel_rfl) (by kernel_rfl) (fun _ _ _ h => h) (Or.inl ⟨by rfl, ?_⟩) hH ?_
    rotate_left
    · (intro w'' hSw; (try dsimp only at hSw); go_simp; try with_reducible rfl)
    change wpAnyU _ _ _ _ _ _ _ _ (Act.put _ (some 98) _) _
    try simp only [Act.put, List.setIfInBounds_toArray, List.set_cons_zero, List.set_cons_succ]
    refine wpAnyU_take (i := 1) (v := ?_) rfl (by kernel_rfl) (by kernel_rfl) (by kernel_rfl) (by kernel_rfl) (fun _ _ _ h => h) (Or.inl ⟨by rfl, ?_⟩) hH ?_
    rotate_left
    · (intro w'' hSw; (try dsimp only at hSw); go_simp; try with_reducible rfl)
    change wpAnyU _ _ _ _ _ _ _ _ (Act.put _ (some 99) _) _
    try simp only [Act.put, List.setIfInBounds_toArray, List.set_cons_zero, List.set_cons_succ]
    refine wpAnyU_take (i := 2) (v := ?_) rfl (by kernel_rfl) (by kernel_rfl) (by kernel_rfl) (by kernel_rfl) (fun _ _ _ h => h) (Or.inl ⟨by rfl, ?_⟩) hH ?_
    rotate_left
    · (intro w'' hSw; (try dsimp only at hSw); go_simp; try with_reducible rfl)
    change wpAnyU _ _ _ _ _ _ _ _ (Act.put _ (some 100) _) _
    try simp only [Act.put, List.setIfInBounds_toArray, List.set_cons_zero, List.set_cons_succ]
    refine wpAnyU_take (i := 3) (v := ?_) rfl (by kernel_rfl) (by kernel_rfl) (by kernel_rfl) (by kernel_rfl) (fun _ _ _ h => h) (Or.inl ⟨by rfl, ?_⟩) hH ?_
    rotate_left
    · (intro w'' hSw; have y1 : w''.cell? ⟨B, 1, none⟩ = some (.int .i64 a) := (blk_cell hSw.out 1).trans rfl; go_simp; try with_reducible rfl)
    change wpAnyU _ _ _ _ _ _ _ _ (Act.put _ (some 101) _) _
    try simp only [Act.put, List.setIfInBounds_toArray, List.set_cons_zero, List.set_cons_succ]
    refine wpAnyU_take (i := 4) (v := ?_) rfl (by kernel_rfl) (by kernel_rfl) (by kernel_rfl) (by kernel_rfl) (fun _ _ _ h => h) (Or.inl ⟨by rfl, ?_⟩) hH ?_
    rotate_left
    · (intro w'' hSw; have q := HTM.out; have q2 := HTW.out; go_simp; try with_reducible rfl)
    change wpAnyU _ _ _ _ _ _ _ _ (Act.put _ (some 102) _) _
    try simp only [Act.put, List.setIfInBounds_toArray, List.set_cons_zero, List.set_cons_succ]
    refine wpAnyU_take (i := 5) (v := ?_) rfl (by kernel_rfl) (by kernel_rfl) (by kernel_rfl) (by kernel_rfl) (fun _ _ _ h => h) (Or.inl ⟨by rfl, ?_⟩) hH ?_
    rotate_left
    · (intro w'' hSw; have y0 : w''.cell? ⟨B, 0, none⟩ = some (.int .i64 wh) := (blk_cell hSw.out 0).trans rfl; have y1 : w''.cell? ⟨B, 1, none⟩ = some (.int .i64 a) := (blk_cell hSw.out 1).trans rfl; have y2 : w''.cell? ⟨B, 2, none⟩ = some (.int .i64 nn) := (blk_cell hSw.out 2).trans rfl; go_simp; try with_reducible rfl)
    change wpAnyU _ _ _ _ _ _ _ _ (Act.put _ (some 103) _) _
    try simp only [Act.put, List.setIfInBounds_toArray, List.set_cons_zero, List.set_cons_succ]
    refine wpAnyU_take (i := 8) (v := ?_) rfl (by kernel_rfl) (by kernel_rfl) (by kernel_rfl) (by kernel_rfl) (fun _ _ _ h => h) (Or.inl ⟨by rfl, ?_⟩) hH ?_
    rotate_left
    · (intro w'' hSw; (try dsimp only at hSw); go_simp; try with_reducible rfl)
    change wpAnyU _ _ _ _ _ _ _ _ (Act.put _ (some 106) _) _
    try simp only [Act.put, List.setIfInBounds_toArray, List.set_cons_zero, List.set_cons_succ]
    refine wpAnyU_take (i := 9) (v := ?_) rfl (by kernel_rfl) (by kernel_rfl) (by kernel_rfl) (by kernel_rfl) (fun _ _ _ h => h) (Or.inl ⟨by rfl, ?_⟩) hH ?_
    rotate_left
    · (intro w'' hSw; (try dsimp only at hSw); go_simp; try with_reducible rfl)
    change wpAnyU _ _ _ _ _ _ _ _ (Act.put _ (some 107) _) _
    try simp only [Act.put, List.setIfInBounds_toArray, List.set_cons_zero, List.set_cons_succ]
    refine wpAnyU_take (i := 10) (v := ?_) rfl (by kernel_rfl) (by kernel_rfl) (by kernel_rfl) (by kernel_rfl) (fun _ _ _ h => h) (Or.inl ⟨by rfl, ?_⟩) hH ?_
    rotate_left
    · (intro w'' hSw; (try dsimp only at hSw); go_simp; try with_reducible rfl)
    change wpAnyU _ _ _ _ _ _ _ _ (Act.put _ (some 108) _) _
    try simp only [Act.put, List.setIfInBounds_toArray, List.set_cons_zero, List.set_cons_succ]
    refine wpAnyU_take (i := 11) (v := ?_) rfl (by kernel_rfl) (by kernel_rfl) (by kernel_rfl) (by kernel_rfl) (fun _ _ _ h => h) (Or.inl ⟨by rfl, ?_⟩) hH ?_
    rotate_left
    · (intro w'' hSw; have y1 : w''.cell? ⟨B, 1, none⟩ = some (.int .i64 a) := (blk_cell hSw.out 1).trans rfl; go_simp; try with_reducible rfl)
    change wpAnyU _ _ _ _ _ _ _ _ (Act.put _ (some 109) _) _
    try simp only [Act.put, List.setIfInBounds_toArray, List.set_cons_zero, List.set_cons_succ]
    refine wpAnyU_take (i := 12) (v := ?_) rfl (by kernel_rfl) (by kernel_rfl) (by kernel_rfl) (by kernel_rfl) (fun _ _ _ h => h) (Or.inl ⟨by rfl, ?_⟩) hH ?_
    rotate_left
    · (intro w'' hSw; have q := HTM.out; have q2 := HTW.out; go_simp; try with_reducible rfl)
    change wpAnyU _ _ _ _ _ _ _ _ (Act.put _ (some 110) _) _
    try simp only [Act.put, List.setIfInBounds_toArray, List.set_cons_zero, List.set_cons_succ]
    refine wpAnyU_take (i := 13) (v := ?_) rfl (by kernel_rfl) (by kernel_rfl) (by kernel_rfl) (by kernel_rfl) (fun _ _ _ h => h) (Or.inl ⟨by rfl, ?_⟩) hH ?_
    rotate_left
    · (intro w'' hSw; have y0 : w''.cell? ⟨B, 0, none⟩ = some (.int .i64 wh) := (blk_cell hSw.out 0).trans rfl; have y1 : w''.cell? ⟨B, 1, none⟩ = some (.int .i64 a) := (blk_cell hSw.out 1).trans rfl; have y2 : w''.cell? ⟨B, 2, none⟩ = some (.int .i64 nn) := (blk_cell hSw.out 2).trans rfl; go_simp; try with_reducible rfl)
    change wpAnyU _ _ _ _ _ _ _ _ (Act.put _ (some 111) _) _
    try simp only [Act.put, List.setIfInBounds_toArray, List.set_cons_zero, List.set_cons_succ]
    refine wpAnyU_ready (rs := [6]) (by kernel_rfl) (by simp) ?_
    refine AllReadyU.cons rfl (fun Kn hKn => ?_) AllReadyU.nil
    go_simp
    go_at_call 51
    (with_reducible refine (HAP.out _).mono ?_)
    rintro ee w4 ⟨rfl, hk4⟩
    have P4 := Lib.hid (PX.out.quiet hk4)
    clear hk4
    refine hKn.out _ _ ?_ (fun hH => ?_)
    · (exact Lib.hid (P4.out.at_ HMB.out))
    clear hKn Kn
    try simp only [Act.put, List.setIfInBounds_toArray, List.set_cons_zero, List.set_cons_succ]
    refine wpAnyU_ready (rs := [7]) (by kernel_rfl) (by simp) ?_
    refine AllReadyU.cons rfl (fun Kn hKn => ?_) AllReadyU.nil
    go_simp
    go_at_call 18
    have hpp := pPatch P4.out i tm bb htb2 hbl
    rw [HRR.out] at hpp
    (refine (show Calls Tryd.prog _ _ w4 (fun e w' => e = .returned (.int .i64 v) ∧ PQ n w0 p q ρ'.abs ρ CC w') from hpp).mono ?_)
    rintro ee w5 ⟨rfl, hp5⟩
    have P5 := Lib.hid hp5
    clear hp5 hpp
    refine hKn.out _ _ ?_ (fun hH => ?_)
    · (exact Lib.hid (P5.out.at_ HMB.out))
    clear hKn Kn
    try simp only [Act.put, List.setIfInBounds_toArray, List.set_cons_zero, List.set_cons_succ]
    refine wpAnyU_ready (rs := [14]) (by kernel_rfl) (by simp) ?_
    refine AllReadyU.cons rfl (fun Kn hKn => ?_) AllReadyU.nil
    go_simp
    go_at_call 51
    (with_reducible refine (HAP.out _).mono ?_)
    rintro ee w6 ⟨rfl, hk6⟩
    have P6 := Lib.hid (P5.out.quiet hk6)
    clear hk6
    refine hKn.out _ _ ?_ (fun hH => ?_)
    · (exact Lib.hid (P6.out.at_ HMB.out))
    clear hKn Kn
    try simp only [Act.put, List.setIfInBounds_toArray, List.set_cons_zero, List.set_cons_succ]
    refine wpAnyU_ready (rs := [15]) (by kernel_rfl) (by simp) ?_
    refine AllReadyU.cons rfl (fun Kn hKn => ?_) AllReadyU.nil
    go_simp
    go_at_call 52
    have hpp := qPatch P6.out i tm bb htb2 hbl
    rw [HRR.out] at hpp
    (refine (show Calls Tryd.prog _ _ w6 (fun e w' => e = .returned (.int .i64 v) ∧ PQ n w0 p q ρ'.abs ρ' CC w') from hpp).mono ?_)
    rintro ee w7 ⟨rfl, hp7⟩
    have P7 := Lib.hid hp7
    clear hp7 hpp
    refine hKn.out _ _ ?_ (fun hH => ?_)
    · (exact Lib.hid (P7.out.at_ HMB.out))
    clear hKn Kn
    try simp only [Act.put, List.setIfInBounds_toArray, List.set_cons_zero, List.set_cons_succ]
    refine wpAnyU_take (i := 16) (v := ?_) rfl (by kernel_rfl) (by kernel_rfl) (by kernel_rfl) (by kernel_rfl) (fun _ _ _ h => h) (Or.inl ⟨by rfl, ?_⟩) hH ?_
    rotate_left
    · (intro w'' hSw; (try dsimp only at hSw); go_simp; try with_reducible rfl)
    change wpAnyU _ _ _ _ _ _ _ _ (Act.put _ (some 114) _) _
    try simp only [Act.put, List.setIfInBounds_toArray, List.set_cons_zero, List.set_cons_succ]
    refine wpAnyU_take (i := 17) (v := ?_) rfl (by kernel_rfl) (by kernel_rfl) (by kernel_rfl) (by kernel_rfl) (fun _ _ _ h => h) (Or.inl ⟨by rfl, ?_⟩) hH ?_
    rotate_left
    · (intro w'' hSw; (try dsimp only at hSw); go_simp; try with_reducible rfl)
    change wpAnyU _ _ _ _ _ _ _ _ (Act.put _ (some 6) _) _
    try simp only [Act.put, List.setIfInBounds_toArray, List.set_cons_zero, List.set_cons_succ]
    refine wpAnyU_done (by kernel_rfl) ?_ _
    go_wp2_with fail
    go_ret
    exact ⟨rfl, ρ', P7.out.less HLS.out, by have := HLEN.out; have := HN.out; omega⟩
  · obtain ⟨R, hR⟩ : ∃ R, ρ.enterR c ((N : Int) - 1) = R := ⟨_, rfl⟩
    have HP := Lib.hid (pEnter PD.out c ((N : Int) - 1))
    have HLEN := Lib.hid (len_enter ρ c ((N : Int) - 1))
    rw [hR] at HP HLEN
    have HRR := Lib.hid hR
    obtain ⟨⟨s1, v, ρ'⟩, rfl⟩ : ∃ x : Bytes × Int × RS, x = R := ⟨_, rfl⟩
    dsimp only at HP HLEN
    obtain ⟨sv, hsv⟩ : ∃ sv, sb s1 = sv := ⟨_, rfl⟩
    rw [hsv] at HP
    have HSV := Lib.hid hsv
    clear hR hsv
    have z0 : w3.cell? ⟨B, 0, none⟩ = some (.int .i64 wh) := (blk_cell HACT3.out 0).trans rfl
    have u0 := HU3.out
    have HWN := Lib.hid (show IntKind.i64.wrap ((N : Int) - 1) = (N : Int) - 1 by rw [IntKind.wrap_i64]; omega)
    go_wp2_with fail
    ((with_reducible refine (M3.out _).mono ?_); rintro ee w' ⟨rfl, rfl⟩)
    clear z0
    go_wp2_with fail
    ((with_reducible refine HP.out.mono ?_); rintro ee w4 ⟨rfl, hp⟩)
    have HQ := Lib.hid (qEnter hp c ((N : Int) - 1))
    rw [HRR.out] at HQ
    dsimp only at HQ
    rw [HSV.out] at HQ
    clear hp
    go_wp2_with fail
    ((with_reducible refine HQ.out.mono ?_); rintro ee w5 ⟨rfl, hp⟩)
    have HF := Lib.hid hp
    clear hp
    go_wp2_with fail
    go_ret
    exact ⟨rfl, ρ', HF.out.less HLS.out, by have := HLEN.out; have := HN.out; omega⟩
  · have HMO := Lib.hid (fun W => amodule_any W wh a nn HI.out.1 HI.out.2.1 HI.out.2.2)
    obtain ⟨bb, hbb⟩ : ∃ bb, modB a (actLen wh nn) = bb := ⟨_, rfl⟩
    have hbl : bb.length ≤ 100000 := by rw [← hbb, modB_length]; have := actLen_le wh nn; omega
    rw [hbb] at HMO
    have HLEN := Lib.hid (len_add ρ bb)
    obtain ⟨R, hR⟩ : ∃ R, ρ.addR bb = R := ⟨_, rfl⟩
    have HRR := Lib.hid hR
    rw [hR] at HLEN
    obtain ⟨⟨v1, v2, ρ'⟩, rfl⟩ : ∃ x : Int × Int × RS, x = R := ⟨_, rfl⟩
    dsimp only at HLEN
    have z0 : w3.cell? ⟨B, 0, none⟩ = some (.int .i64 wh) := (blk_cell HACT3.out 0).trans rfl
    have z1 : w3.cell? ⟨B, 1, none⟩ = some (.int .i64 a) := (blk_cell HACT3.out 1).trans rfl
    have z2 : w3.cell? ⟨B, 2, none⟩ = some (.int .i64 nn) := (blk_cell HACT3.out 2).trans rfl
    clear hbb hR
    go_wp2_with fail
    ((with_reducible refine (HMO.out _).mono ?_); rintro ee w4 ⟨x, hx, rfl, hk4⟩)
    have HP4 := Lib.hid (PD.out.later hk4)
    have HAD := Lib.hid (pAdd HP4.out bb x hbl (by rw [HN.out]; omega))
    rw [HRR.out] at HAD
    obtain ⟨mv, hmv⟩ : ∃ mv, modV bb x = mv := ⟨_, rfl⟩
    rw [hmv] at HAD ⊢
    clear hk4 hx hmv z0 z1 z2
    go_wp2_with fail
    ((refine (show Calls Tryd.prog _ _ w4 (fun e w' => e = .returned (.tuple #[.int .i64 v1, .int .i64 v2]) ∧ PQ n w0 p q ρ'.abs ρ CC w') from HAD.out).mono ?_); rintro ee w5 ⟨rfl, hp⟩)
    have HP5 := Lib.hid hp
    have hact5 := hp.at_ HMB.out
    have z0 : w5.cell? ⟨B, 0, none⟩ = some (.int .i64 wh) := (blk_cell hact5 0).trans rfl
    have z1 : w5.cell? ⟨B, 1, none⟩ = some (.int .i64 a) := (blk_cell hact5 1).trans rfl
    have z2 : w5.cell? ⟨B, 2, none⟩ = some (.int .i64 nn) := (blk_cell hact5 2).trans rfl
    clear hp hact5
    go_wp2_with fail
    ((with_reducible refine (HMO.out _).mono ?_); rintro ee w6 ⟨x2, hx2, rfl, hk6⟩)
    have HP6 := Lib.hid (HP5.out.later hk6)
    have HAQ := Lib.hid (qAdd HP6.out bb x2 hx2 hbl (by rw [HN.out]; omega))
    rw [HRR.out] at HAQ
    obtain ⟨mv2, hmv⟩ : ∃ mv, modV bb x2 = mv := ⟨_, rfl⟩
    rw [hmv] at HAQ ⊢
    clear hk6 hx2 hmv z0 z1 z2
    go_wp2_with fail
    ((refine (show Calls Tryd.prog _ _ w6 (fun e w' => e = .returned (.tuple #[.int .i64 v1, .int .i64 v2]) ∧ PQ n w0 p q ρ'.abs ρ' CC w') from HAQ.out).mono ?_); rintro ee w7 ⟨rfl, hp⟩)
    have HF := Lib.hid hp
    clear hp
    go_wp2_with fail
    go_ret
    exact ⟨rfl, ρ', HF.out.less HLS.out, by have := HLEN.out; have := HN.out; omega⟩
end Go.Proofs.YtnhajhejkecihaaDoor
/- Install: play: acts on a store and its reference. -/
namespace Go.Proofs.YtnhajhejkecihaaDoor
open Go.RowKit
set_option linter.unusedVariables false
set_option linter.unusedSimpArgs false

theorem PQ.made {w w1 w2 : World} {p q : Nat} {r : SR} {u : RR} {s : MS} {ρ : RS} (hT : TB w) (h1 : IsStore w.heap.size w1 p r s) (hk1 : Since w.heap.size w w1) (h2 : IsRef w1.heap.size w2 q u ρ) (hk2 : Since w1.heap.size w1 w2) : PQ w.heap.size w p q s ρ [] w2 := by
  have hs := hk1.size
  have hk : Since w.heap.size w w2 := Keep.trans hk1 (Since.mono hk2 hs)
  refine ⟨r, u, h1.since hk2, ⟨h2.hdr, h2.row, h2.inn, h2.fits, h2.apart, fun k hf => Nat.le_trans hs (h2.low k hf), h2.ok⟩, hk, fun k hk3 hf => ?_, fun x hx => (by cases hx), hT.pos, hT.since hk hT.pos⟩
  have := h1.foot_lt k hk3
  have := h2.low k hf
  omega
set_option maxRecDepth 100000 in
set_option maxHeartbeats 8000000 in
theorem play_any (w : World) (hT : TB w) (cp : Nat) (hcp : cp < 256) {A : Option Addr} {N cap : Nat} {l : List Act'} (hA : ActsAt w A N l) (m : Nat) (hm : m ≤ 100) :
    Calls Tryd.prog 9 #[.int .u8 cp, .slice A N cap, .int .i64 m] w fun e w' => ∃ (p q : Nat) (ρ : RS), e = .returned (.tuple #[.pointer (some ⟨p, 0, none⟩), .pointer (some ⟨q, 0, none⟩), .bool true]) ∧ PQ w.heap.size w p q ρ.abs ρ [] w' ∧ ρ.L.length ≤ m := by
  obtain ⟨c, hc⟩ : ∃ c, 1 + cp % 4 = c := ⟨_, rfl⟩
  have hcb : 1 ≤ c ∧ c ≤ 4 := by omega
  have hci : 1 + (cp : Int) % 4 = (c : Int) := by omega
  have HCI := Lib.hid hci
  have HN := Lib.hid (new_any w c hcb)
  have HRN := Lib.hid (fun W : World => rnew_any W c hcb)
  have hNb := hA.2.1
  have HA := Lib.hid hA
  have T := Lib.hid hT
  clear hc hci hA hT
  go_enter Tryd.func9, Tryd.ntmps9
  go_wp2_with fail
  rw [HCI.out]
  ((with_reducible refine HN.out.mono ?_); rintro ee w1 ⟨p, r, rfl, hs1, hk1⟩)
  have H1 := Lib.hid (And.intro hs1 hk1)
  clear hs1 hk1 HN
  go_wp2_with fail
  rw [HCI.out]
  ((with_reducible refine (HRN.out _).mono ?_); rintro ee w2 ⟨q, u, rfl, hr2, hk2⟩)
  have P0 := Lib.hid (show PQ w.heap.size w p q (RS.new c).abs (RS.new c) [] w2 ∧ (RS.new c).L.length ≤ 0 from ⟨PQ.made T.out H1.out.1 H1.out.2 hr2 hk2, Nat.le_refl _⟩)
  clear hr2 hk2 HRN H1
  go_wp2_with fail
  go_loopw [13] (fun i wr => ∃ k : Nat, k ≤ N ∧ k ≤ m ∧ i = .int .i64 (k : Int) ∧ ∃ ρ : RS, Hid (PQ w.heap.size w p q ρ.abs ρ [] wr ∧ ρ.L.length ≤ k)) (fun i _ => m + 1 - (RowKit.intOf i).toNat)
  case atStart => exact ⟨0, Nat.zero_le _, Nat.zero_le _, rfl, _, P0⟩
  case round =>
    obtain ⟨k, hkN, hkm, rfl, ρ, PP⟩ := hrel
    obtain ⟨wo, rfl⟩ : ∃ wo : World, wo = wr := ⟨_, rfl⟩
    clear P0
    by_cases hlt : k < N
    · have hb : decide (k < N) = true := by simpa using hlt
      by_cases hlt2 : k < m
      · have hb2 : decide (k < m) = true := by simpa using hlt2
        obtain ⟨bl, off, hAe, a, _, hok, q0, q1, q2⟩ := (HA.out.since PP.out.1.since (Nat.le_refl _)).at_ k hlt
        have HD := Lib.hid (do_any PP.out.1 (by have := PP.out.2; omega) a.x a.y a.z hok.x hok.y hok.z)
        rw [hAe]
        clear hok hAe
        go_wp2_with fail
        ((with_reducible refine HD.out.mono ?_); rintro ee w3 ⟨rfl, ρ', hp3, hl3⟩)
        have P3 := Lib.hid hp3
        have L3 := Lib.hid (show ρ'.L.length ≤ k + 1 by have := PP.out.2; omega)
        have HT1 := Lib.hid (pText hp3)
        obtain ⟨z, hz⟩ : ∃ z, sb (textOf ρ'.abs.all ρ'.abs.inn) = z := ⟨_, rfl⟩
        rw [hz] at HT1
        have HZ := Lib.hid hz
        clear hp3 hl3 hz HD q0 q1 q2
        go_wp2_with fail
        ((with_reducible refine HT1.out.mono ?_); rintro ee w4 ⟨rfl, hp4⟩)
        have HT2 := Lib.hid (qText hp4 (by have := L3.out; omega))
        rw [show sb (textOf ρ'.abs.all ρ'.inn) = z from HZ.out] at HT2
        clear hp4
        go_wp2_with fail
        ((with_reducible refine HT2.out.mono ?_); rintro ee w5 ⟨rfl, hp5⟩)
        have PN := Lib.hid (And.intro hp5 L3.out)
        clear hp5
        go_wp2_with fail
        exact ⟨⟨k + 1, by omega, by omega, by go_num, ρ', PN⟩, by simp [RowKit.intOf]; omega⟩
      · have hb2 : decide (k < m) = false := by simpa using hlt2
        go_wp2_with fail
        go_ret3
        exact ⟨p, q, ρ, rfl, PP.out.1, by have := PP.out.2; omega⟩
    · have hb : decide (k < N) = false := by simpa using hlt
      go_wp2_with fail
      go_ret3
      exact ⟨p, q, ρ, rfl, PP.out.1, by have := PP.out.2; omega⟩
end Go.Proofs.YtnhajhejkecihaaDoor
/- facsimileref04.Ints at two lists that are alike. -/
namespace Go.Proofs.YtnhajhejkecihaaDoor
open Go.RowKit
set_option linter.unusedVariables false

set_option maxHeartbeats 2000000 in
set_option maxRecDepth 100000 in
theorem ints_same {w : World} {A1 A2 : Option Addr} {n c1 c2 : Nat} {l : List Int} (h1 : IntsAt w A1 n l) (h2 : IntsAt w A2 n l) :
    Calls Tryd.prog 10 #[.slice A1 n c1, .slice A2 n c2] w fun e w' => e = .returned (.bool true) ∧ Keep (fun _ => False) w w' := by
  have H1 := Lib.hid h1
  have H2 := Lib.hid h2
  have hnb := h1.bound
  clear h1 h2
  go_enter Tryd.func10, Tryd.ntmps10
  go_wp2_with fail
  go_loopw [5] (fun i wr => ∃ k : Nat, k ≤ n ∧ i = .int .i64 (k : Int) ∧ Hid (Keep (fun _ => False) w wr)) (fun i _ => n + 1 - (RowKit.intOf i).toNat)
  case atStart => exact ⟨0, by omega, rfl, Lib.hid (Keep.refl _ _)⟩
  case round =>
    obtain ⟨k, hk, rfl, KK⟩ := hrel
    obtain ⟨wo, rfl⟩ : ∃ wo : World, wo = wr := ⟨_, rfl⟩
    by_cases hlt : k < n
    · have hb : decide (k < n) = true := by simpa using hlt
      obtain ⟨b1, o1, e1, q1⟩ := H1.out.at_ k hlt
      obtain ⟨b2, o2, e2, q2⟩ := H2.out.at_ k hlt
      replace q1 := cell_kept KK.out q1 id
      replace q2 := cell_kept KK.out q2 id
      have HK := Lib.hid (show Keep (fun _ => False) w wo.drew from Keep.trans KK.out (keep_draw _ wo))
      obtain ⟨v, hv⟩ : ∃ v, l.getD k 0 = v := ⟨_, rfl⟩
      rw [hv] at q1 q2
      rw [e1, e2]
      clear e1 e2 hv
      go_wp2_with fail
      go_region
      go_wp2_with fail
      exact ⟨⟨k + 1, by omega, by go_num, HK⟩, by simp [RowKit.intOf]; omega⟩
    · have hb : decide (k < n) = false := by simpa using hlt
      go_wp2_with fail
      go_ret
      exact ⟨rfl, KK.out⟩
end Go.Proofs.YtnhajhejkecihaaDoor
/- Install: Module; a store alone goes on, its reference stays. -/
namespace Go.Proofs.YtnhajhejkecihaaDoor
open Go.RowKit
set_option linter.unusedVariables false
set_option linter.unusedSimpArgs false

theorem results_mod {W : World} {B : Nat} {cs : Array Value} {bv : Bool} (tmps : Array Value) (ht : tmps.getD 4 undef = .pointer (some ⟨B, 0, none⟩)) (h5 : tmps.getD 5 undef = .bool bv) (hb : W.heap[B]? = some (.cells cs 43 (0, 0))) (hs : cs.size = 9) :
    (results Tryd.f15 tmps).run Tryd.prog W = .ok (.tuple #[.agg cs, .bool bv]) W := by
  rw [results_cell_tmp (p := 4) (ty := 43) (u := 5) rfl, ht, h5]
  simp [asAddr, run_loadVar_row W B 43 43 cs (0, 0) _ hb Tryd.underlying43 rfl (by rw [hs]; kernel_rfl), Result.andThen]
def z9 : Array Value := #[.int .i64 0, .int .i64 0, .string ⟨#[]⟩, .slice none 0 0, .slice none 0 0, .slice none 0 0, .int .i64 0, .int .i64 0, .slice none 0 0]
section
variable {n : Nat} {w : World} {p : Nat} {r : SR} {s : MS}
set_option maxRecDepth 100000 in
set_option maxHeartbeats 4000000 in
theorem module_none (h : IsStore n w p r s) (id : Int) (hf : s.find id = none) :
    Calls Tryd.prog 15 #[.pointer (some ⟨p, 0, none⟩), .int .i64 id] w fun e w' => e = .returned (.tuple #[modV [] MX.zero, .bool false]) ∧ Since w.heap.size w w' := by
  have hka := (Keep.refl (fun _ => False) w).alloc' (.cells z9 43)
  have HC := Lib.hid (closed_any (h.quiet hka))
  have HF := Lib.hid (find_any (h.quiet hka) id)
  rw [hf] at HF
  change Hid (Calls _ _ _ _ fun e w' => e = Ending.returned (Value.pointer none) ∧ _) at HF
  have HK := Lib.hid (show Since w.heap.size w (w.alloc (.cells z9 43)) from Since.of hka)
  have HB := Lib.hid (heap_alloc_new w (.cells z9 43))
  unfold z9 at HC HF HB HK
  clear h hf hka
  go_enter Tryd.func15, Tryd.ntmps15
  go_wp2_with fail
  ((with_reducible refine HC.out.mono ?_); rintro ee w' ⟨rfl, hw⟩)
  obtain rfl := hw
  go_wp2_with fail
  ((with_reducible refine HF.out.mono ?_); rintro ee w' ⟨rfl, hw⟩)
  obtain rfl := hw
  go_wp2_with fail
  exact bodyPost_ret (results_mod _ rfl rfl HB.out rfl) rfl ⟨rfl, HK.out⟩
set_option maxRecDepth 100000 in
set_option maxHeartbeats 4000000 in
theorem module_some (h : IsStore n w p r s) (id : Int) {i : Nat} (hf : s.find id = some i) :
    Calls Tryd.prog 15 #[.pointer (some ⟨p, 0, none⟩), .int .i64 id] w fun e w' => (∃ x : MX, e = .returned (.tuple #[modV (s.all.getD i ME.dflt).bytes x, .bool true])) ∧ Since w.heap.size w w' := by
  have hka := (Keep.refl (fun _ => False) w).alloc' (.cells z9 43)
  have HC := Lib.hid (closed_any (h.quiet hka))
  have HF := Lib.hid (find_any (h.quiet hka) id)
  rw [hf] at HF
  obtain ⟨hi, _, _⟩ := found_at hf
  change Hid (Calls _ _ _ _ fun e w' => e = Ending.returned (Value.pointer (some ⟨r.es.getD i 0, 0, none⟩)) ∧ _) at HF
  have hent := ((h.quiet hka).ents i hi).1
  obtain ⟨eb, heb⟩ : ∃ eb, r.es.getD i 0 = eb := ⟨_, rfl⟩
  obtain ⟨e, he⟩ : ∃ e, s.all.getD i ME.dflt = e := ⟨_, rfl⟩
  obtain ⟨x, hx⟩ : ∃ x, r.xs.getD i MX.dflt = x := ⟨_, rfl⟩
  rw [heb] at HF hent
  rw [he, hx] at hent
  rw [he]
  have hall := x.all e.bytes
  have hrg : (w.alloc (.cells z9 43)).rangeAt eb 2 (mcells e.bytes x) := by
    intro j v hv
    rw [blk_cell hent]
    have hj : j < 9 := (List.getElem?_eq_some_iff.1 hv).1
    rw [← hv]
    rcases (show j = 0 ∨ j = 1 ∨ j = 2 ∨ j = 3 ∨ j = 4 ∨ j = 5 ∨ j = 6 ∨ j = 7 ∨ j = 8 by omega) with rfl | rfl | rfl | rfl | rfl | rfl | rfl | rfl | rfl <;> rfl
  obtain ⟨mc, hmc⟩ : ∃ mc, (mcells e.bytes x).toArray = mc := ⟨_, rfl⟩
  have hms : mc.size = 9 := by rw [← hmc]; rfl
  rw [hmc] at hall
  have HK := Lib.hid (show Since w.heap.size w ((w.alloc (.cells z9 43)).setRow w.heap.size mc) from Keep.trans (Since.of hka) (Keep.mono setRow_keep (fun i e => by omega)))
  have HB := Lib.hid (copied (w := w) 43 z9 mc)
  have RG := Lib.hid hrg
  have RC := Lib.hid hmc
  have RA := Lib.hid hall
  have RS9 := Lib.hid hms
  unfold z9 at HC HF HB HK
  clear h hf hka hent heb he hx hrg hmc hall hms hi
  go_enter Tryd.func15, Tryd.ntmps15
  go_wp2_with fail
  ((with_reducible refine HC.out.mono ?_); rintro ee w' ⟨rfl, hw⟩)
  obtain rfl := hw
  go_wp2_with fail
  ((with_reducible refine HF.out.mono ?_); rintro ee w' ⟨rfl, hw⟩)
  obtain rfl := hw
  go_wp2_with (first
    | (refine wpList_load_mid rfl 43 (.tmp 18) rfl eb 2 rfl _ _ RG.out Tryd.underlying43 rfl (by kernel_rfl) ?_; rw [RC.out])
    | (refine wpList_store_row rfl 43 (.tmp 4) (.tmp 19) rfl w.heap.size 43 z9 mc rfl rfl (by exact heap_alloc_new _ _) (by rw [RS9.out]; kernel_rfl) (by rw [RS9.out]; rfl) RA.out ?_))
  refine bodyPost_ret (results_mod _ rfl rfl HB.out RS9.out) rfl ⟨⟨x, ?_⟩, HK.out⟩
  rw [← RC.out]
  rfl
end
section
variable {n : Nat} {w0 w : World} {p q : Nat} {σ ρ : RS} {C : List (Nat × Obj)}
/-- A block that was made and then stored to. -/
theorem PQ.stored {s : MS} (h : PQ n w0 p q s ρ C w) (t : TypeId) (old new : Array Value) : PQ n w0 p q s ρ ((w.heap.size, .cells new t (0, 0)) :: C) ((w.alloc (.cells old t)).setRow w.heap.size new) := by
  have hl := h.low
  have k : Since w.heap.size w ((w.alloc (.cells old t)).setRow w.heap.size new) := Keep.trans (Since.of ((Keep.refl (fun _ => False) w).alloc' _)) (Keep.mono setRow_keep (fun i e => by omega))
  obtain ⟨r, u, h1, h2, h3, h4, h5, hn, ht⟩ := h
  refine ⟨r, u, h1.since k, h2.since k, Keep.trans h3 (Since.mono k hl), h4, fun x hx => ?_, hn, ht.since k (by omega)⟩
  rcases List.mem_cons.1 hx with rfl | hx
  · exact ⟨setRow_heap _ _ _ _ _ _ (heap_alloc_new w _), fun hf => by have := h1.foot_lt _ hf; simp at this, fun hf => by have := h2.foot_lt _ hf; simp at this⟩
  · exact ⟨(k.block _ (blk_lt (h5 x hx).1) (by have := blk_lt (h5 x hx).1; omega)).trans (h5 x hx).1, (h5 x hx).2⟩
theorem sSafe (h : PQ n w0 p q σ.abs ρ C w) (ok : σ.Ok) (c : Int) : Calls Tryd.prog 19 #[.pointer (some ⟨p, 0, none⟩), .int .i64 c] w fun e w' => e = .returned (.int .i64 (σ.safeR c).1) ∧ PQ n w0 p q (σ.safeR c).2.abs ρ C w' := by
  obtain ⟨r, u, h1, h2, h3, h4, h5, _⟩ := id h
  exact (iSafe h1 ok c).mono fun e w' ⟨a, b⟩ => ⟨a, h.left h1 h2 h4 h5 b⟩
theorem sLeave (h : PQ n w0 p q σ.abs ρ C w) (ok : σ.Ok) (c : Int) : Calls Tryd.prog 17 #[.pointer (some ⟨p, 0, none⟩), .int .i64 c] w fun e w' => e = .returned (.int .i64 (σ.leaveR c).1) ∧ PQ n w0 p q (σ.leaveR c).2.abs ρ C w' := by
  obtain ⟨r, u, h1, h2, h3, h4, h5, _⟩ := id h
  exact (iLeave h1 ok c).mono fun e w' ⟨a, b⟩ => ⟨a, h.left h1 h2 h4 h5 b⟩
theorem sDrop (h : PQ n w0 p q σ.abs ρ C w) (ok : σ.Ok) (c : Int) : Calls Tryd.prog 22 #[.pointer (some ⟨p, 0, none⟩), .int .i64 c] w fun e w' => e = .returned (.int .i64 (σ.dropR c).1) ∧ PQ n w0 p q (σ.dropR c).2.abs ρ C w' := by
  obtain ⟨r, u, h1, h2, h3, h4, h5, _⟩ := id h
  exact (iDrop h1 ok c).mono fun e w' ⟨a, b⟩ => ⟨a, h.left h1 h2 h4 h5 b⟩
theorem sEnter (h : PQ n w0 p q σ.abs ρ C w) (ok : σ.Ok) (c i : Int) : Calls Tryd.prog 16 #[.pointer (some ⟨p, 0, none⟩), .int .i64 c, .int .i64 i] w fun e w' => e = .returned (.tuple #[.string (sb (σ.enterR c i).1), .int .i64 (σ.enterR c i).2.1]) ∧ PQ n w0 p q (σ.enterR c i).2.2.abs ρ C w' := by
  obtain ⟨r, u, h1, h2, h3, h4, h5, _⟩ := id h
  exact (iEnter h1 ok c i).mono fun e w' ⟨a, b⟩ => ⟨a, h.left h1 h2 h4 h5 b⟩
theorem sPatch (h : PQ n w0 p q σ.abs ρ C w) (ok : σ.Ok) (i t : Int) (b : Bytes) (hat : -1000 ≤ t ∧ t ≤ 1000) (hbl : b.length ≤ 1000) : Calls Tryd.prog 18 #[.pointer (some ⟨p, 0, none⟩), .int .i64 i, .int .i64 t, .string (sb b)] w fun e w' => e = .returned (.int .i64 (σ.patchR i t b).1) ∧ PQ n w0 p q (σ.patchR i t b).2.abs ρ C w' := by
  obtain ⟨r, u, h1, h2, h3, h4, h5, _⟩ := id h
  exact (iPatch h1 ok i t b hat hbl).mono fun e w' ⟨a, b⟩ => ⟨a, h.left h1 h2 h4 h5 b⟩
theorem sAdd (h : PQ n w0 p q σ.abs ρ C w) (ok : σ.Ok) (b : Bytes) (x : MX) (hbl : b.length ≤ 100000) (hl : σ.L.length < 1000000) : Calls Tryd.prog 21 #[.pointer (some ⟨p, 0, none⟩), modV b x] w fun e w' => e = .returned (.tuple #[.int .i64 (σ.addR b).1, .int .i64 (σ.addR b).2.1]) ∧ PQ n w0 p q (σ.addR b).2.2.abs ρ C w' := by
  obtain ⟨r, u, h1, h2, h3, h4, h5, _⟩ := id h
  exact (iAdd h1 ok b x hbl hl).mono fun e w' ⟨a, b⟩ => ⟨a, h.left h1 h2 h4 h5 b⟩
/-- What Module answers. -/
def RS.modB (σ : RS) (id : Int) : Bytes := if σ.there id then (σ.at_ id.toNat).bytes else []
theorem sModule (h : PQ n w0 p q σ.abs ρ C w) (ok : σ.Ok) (id : Int) : Calls Tryd.prog 15 #[.pointer (some ⟨p, 0, none⟩), .int .i64 id] w fun e w' => (∃ x : MX, e = .returned (.tuple #[modV (σ.modB id) x, .bool (σ.there id)])) ∧ PQ n w0 p q σ.abs ρ C w' := by
  obtain ⟨r, u, h1, _⟩ := Iff.mp Iff.rfl h
  unfold RS.modB
  cases hth : σ.there id with
  | false =>
    rw [if_neg (by decide)]
    exact (module_none h1 id (ok.find_none hth)).mono fun e w' ⟨a, b⟩ => ⟨⟨_, a⟩, h.later b⟩
  | true =>
    rw [if_pos rfl]
    obtain ⟨i, rfl, hi, hd⟩ := RS.there_at hth
    obtain ⟨j, hf, hj, hat, _⟩ := ok.find_there hi hd
    rw [Int.toNat_natCast]
    have := module_some h1 (i : Int) hf
    rw [hat] at this
    exact this.mono fun e w' ⟨a, b⟩ => ⟨a, h.later b⟩
end
end Go.Proofs.YtnhajhejkecihaaDoor
/- Install: what the law of live modules needs: plain laws, and the list of live modules held beside a store. -/
namespace Go.Proofs.YtnhajhejkecihaaDoor
open Go.RowKit
set_option linter.unusedVariables false
set_option linter.unusedSimpArgs false

theorem live_there {ρ : RS} (h : ρ.Ok) {x : Int} (hx : x ∈ liveL ρ.abs.all) : ∃ i : Nat, x = (i : Int) ∧ i < ρ.L.length ∧ (ρ.at_ i).dropped = false ∧ (ρ.at_ i).free = true := by
  rw [RS.live_abs] at hx
  obtain ⟨e, he, rfl⟩ := List.mem_map.1 hx
  obtain ⟨he1, he2⟩ := List.mem_filter.1 he
  obtain ⟨i, hi, rfl⟩ := List.getElem_of_mem he1
  have e1 : ρ.at_ i = ρ.L[i] := by unfold RS.at_; rw [List.getD_eq_getElem?_getD, List.getElem?_eq_getElem hi]; rfl
  have h1 := h.ids i hi
  rw [e1] at h1
  unfold ME.lives at he2
  simp only [Bool.and_eq_true, Bool.not_eq_true'] at he2
  exact ⟨i, by rw [h1], hi, by rw [e1]; exact he2.1, by rw [e1]; exact he2.2⟩
/-- Only who is where has changed. -/
def Alike (σ ρ : RS) : Prop := σ.L = ρ.L ∧ σ.inn.length = ρ.inn.length
theorem Alike.left {σ ρ : RS} (h : Alike σ ρ) (c : Nat) (v : Int) : Alike (σ.left c v) ρ := ⟨h.1, by rw [← h.2]; simp [RS.left]⟩
theorem Alike.enter {σ ρ : RS} (h : Alike σ ρ) (c i : Int) : Alike (σ.enterR c i).2.2 ρ := by
  unfold RS.enterR
  split
  · exact h
  · split
    · exact h
    · split
      · exact h
      · split
        · exact h
        · exact h.left _ _
theorem Alike.leave {σ ρ : RS} (h : Alike σ ρ) (c : Int) : Alike (σ.leaveR c).2 ρ := by
  unfold RS.leaveR
  split
  · exact h
  · split
    · exact h
    · exact h.left _ _
theorem Alike.there {σ ρ : RS} (h : Alike σ ρ) (i : Int) : σ.there i = ρ.there i := by unfold RS.there RS.at_; rw [h.1]
theorem free_owed {e : ME} (h : e.free = true) (c : Nat) : e.owed.getD c false = false := by
  unfold ME.free at h
  rw [List.all_eq_true] at h
  rw [List.getD_eq_getElem?_getD]
  cases hc : e.owed[c]? with
  | none => rfl
  | some b =>
    have := h b (List.mem_of_getElem? hc)
    simpa using this
theorem there_nat {ρ : RS} {i : Nat} (hi : i < ρ.L.length) : ρ.there (i : Int) = !(ρ.at_ i).dropped := by
  unfold RS.there
  rw [show decide ((0 : Int) ≤ (i : Int)) = true by simp, show decide ((i : Int) < (ρ.L.length : Int)) = true by simpa using hi]
  rfl
theorem cpu_of_nat {σ : RS} {c : Nat} (hc : c < σ.inn.length) : σ.cpu (c : Int) = true := by
  unfold RS.cpu
  rw [show decide ((0 : Int) ≤ (c : Int)) = true by simp, show decide ((c : Int) < (σ.inn.length : Int)) = true by simpa using hc]
  rfl
theorem enter_live {σ ρ : RS} (h : Alike σ ρ) {i c : Nat} (hc : c < ρ.inn.length) (hi : i < ρ.L.length) (hd : (ρ.at_ i).dropped = false) (hf : (ρ.at_ i).free = true) : (σ.enterR (c : Int) (i : Int)).2.1 = 0 ∨ (σ.enterR (c : Int) (i : Int)).2.1 = 41 := by
  unfold RS.enterR
  rw [cpu_of_nat (by rw [h.2]; exact hc), if_neg (by decide), h.there, there_nat hi, hd, if_neg (by decide)]
  cases hb : σ.busy (c : Int) with
  | true => rw [if_pos rfl]; exact .inr rfl
  | false =>
    rw [if_neg (by decide)]
    have e1 : σ.at_ (i : Int).toNat = ρ.at_ i := by unfold RS.at_; rw [h.1, Int.toNat_natCast]
    rw [e1, free_owed hf, if_neg (by decide)]
    exact .inl rfl
theorem leave_idle' {σ : RS} {c : Nat} (hc : c < σ.inn.length) : (σ.leaveR (c : Int)).2.busy (c : Int) = false := by
  unfold RS.leaveR
  rw [cpu_of_nat hc, if_neg (by decide)]
  cases hb : σ.busy (c : Int) with
  | false => rw [if_pos rfl]; exact hb
  | true =>
    rw [if_neg (by decide)]
    have e : (σ.inn.set c (-1)).getD c 0 = -1 := by rw [List.getD_eq_getElem?_getD, List.getElem?_set_self hc]; rfl
    unfold RS.busy RS.left
    simp only [Int.toNat_natCast, e]
    rfl
/-- The first j processors have passed. -/
structure Passed (σ ρ : RS) (j : Nat) : Prop where
  len : σ.L.length = ρ.L.length
  cpus : σ.inn.length = ρ.inn.length
  free : ∀ e ∈ σ.L, ∀ c, c < j → e.owed.getD c false = false
theorem Passed.zero {σ ρ : RS} (h : Alike σ ρ) : Passed σ ρ 0 := ⟨by rw [h.1], h.2, fun _ _ _ hc => absurd hc (by omega)⟩
theorem Passed.step {σ ρ : RS} {j : Nat} (h : Passed σ ρ j) (hj : j < ρ.inn.length) : Passed ((σ.leaveR (j : Int)).2.safeR (j : Int)).2 ρ (j + 1) := by
  have hA : Alike (σ.leaveR (j : Int)).2 σ := Alike.leave ⟨rfl, rfl⟩ _
  have hb := leave_idle' (σ := σ) (c := j) (by rw [h.cpus]; exact hj)
  obtain ⟨τ, hτ⟩ : ∃ τ, (σ.leaveR (j : Int)).2 = τ := ⟨_, rfl⟩
  rw [hτ] at hA hb ⊢
  have e : (τ.safeR (j : Int)).2 = τ.passed j := by
    unfold RS.safeR
    rw [cpu_of_nat (by rw [hA.2, h.cpus]; exact hj), if_neg (by decide), hb, if_neg (by decide), Int.toNat_natCast]
  rw [e]
  refine ⟨by rw [len_passed, hA.1, h.len], by show τ.inn.length = _; rw [hA.2, h.cpus], fun x hx c hc => ?_⟩
  obtain ⟨y, hy, rfl⟩ := List.mem_map.1 hx
  rw [hA.1] at hy
  unfold ME.passed
  simp only
  rw [List.getD_eq_getElem?_getD]
  by_cases hcj : c = j
  · subst hcj
    by_cases hl : c < y.owed.length
    · rw [List.getElem?_set_self hl]; rfl
    · rw [List.getElem?_eq_none (by rw [List.length_set]; omega)]; rfl
  · rw [List.getElem?_set_ne (fun e => hcj e.symm)]
    have := h.free y hy c (by omega)
    rwa [List.getD_eq_getElem?_getD] at this
theorem Passed.all {σ ρ : RS} (h : Passed σ ρ ρ.inn.length) (ok : σ.Ok) : (liveL σ.abs.all).length = σ.L.countP fun e => !e.dropped := by
  rw [RS.live_abs, List.length_map, ← List.countP_eq_length_filter]
  refine List.countP_congr (fun e he => ?_)
  have hf : e.free = true := by
    unfold ME.free
    rw [List.all_eq_true]
    intro b hb
    obtain ⟨c, hc, rfl⟩ := List.getElem_of_mem hb
    have := h.free e he c (by rw [← h.cpus, ← ok.owed e he]; exact hc)
    rw [List.getD_eq_getElem?_getD, List.getElem?_eq_getElem hc] at this
    simpa using this
  unfold ME.lives
  rw [hf, Bool.and_true]
section
variable {n : Nat} {w0 w : World} {p q : Nat} {s : MS} {ρ : RS} {C : List (Nat × Obj)}
/-- Live; the list that it returns is held by what its block holds. -/
theorem pLiveC (h : PQ n w0 p q s ρ C w) : Calls Tryd.prog 11 #[.pointer (some ⟨p, 0, none⟩)] w fun e w' => ∃ (A : Option Addr) (c : Nat) (D : List (Nat × Obj)), e = .returned (.slice A (liveL s.all).length c) ∧ PQ n w0 p q s ρ D w' ∧ (∀ W : World, (∀ x ∈ D, W.heap[x.1]? = some x.2) → IntsAt W A (liveL s.all).length (liveL s.all)) := by
  obtain ⟨r, u, h1, h2, h3, h4, h5, hn, ht⟩ := id h
  refine (live_any h1).mono ?_
  rintro e w' ⟨⟨A, c, rfl, ho⟩, hk⟩
  have hq := h.later hk
  obtain ⟨hcap, hcl⟩ := own_cap ho
  rcases ho.2 with ⟨hv, hl⟩ | ⟨g, cap, cur, hv, hb, hg, hrest⟩
  · refine ⟨A, c, [], rfl, hq.less (fun x hx => by cases hx), fun W _ => ⟨hcl.1, hcl.2.1, fun h0 => ?_⟩⟩
    omega
  · injection hv with hA _ _
    subst hA
    refine ⟨_, c, [(g, .cells cur 3 (0, 0))], rfl, ?_, fun W hW => ⟨hcl.1, hcl.2.1, fun h0 => ⟨g, 0, rfl, blk_lt (hW _ List.mem_cons_self), fun j hj => ?_⟩⟩⟩
    · refine ⟨r, u, h1.since hk, h2.since hk, Keep.trans h3 (Since.mono hk h2.base), h4, fun x hx => ?_, hn, ht.since hk (by have := h2.base; omega)⟩
      rw [List.mem_singleton.1 hx]
      exact ⟨hg, fun hf => by have := h1.foot_lt _ hf; omega, fun hf => by have := h2.foot_lt _ hf; omega⟩
    · obtain ⟨b, off, e1, _, hc⟩ := hcl.2.2 h0
      injection e1 with e1
      injection e1 with e1 e2
      subst e1 e2
      have := hc j hj
      rw [blk_cell hg] at this
      rw [blk_cell (hW _ List.mem_cons_self)]
      exact this
end
end Go.Proofs.YtnhajhejkecihaaDoor
/- Install: what the law of modules that stand apart needs: plain laws, and a row of strings held beside a store. -/
namespace Go.Proofs.YtnhajhejkecihaaDoor
open Go.RowKit
set_option linter.unusedVariables false
set_option linter.unusedSimpArgs false

/-- The bytes that Module answers are the same. -/
def Sa (σ ρ : RS) : Prop := σ.L.length = ρ.L.length ∧ ∀ i : Int, σ.modB i = ρ.modB i
theorem Sa.refl (σ : RS) : Sa σ σ := ⟨rfl, fun _ => rfl⟩
theorem Sa.trans {a b c : RS} (h : Sa a b) (g : Sa b c) : Sa a c := ⟨h.1.trans g.1, fun i => (h.2 i).trans (g.2 i)⟩
theorem modB_eq {σ ρ : RS} (h : σ.L = ρ.L) (i : Int) : σ.modB i = ρ.modB i := by unfold RS.modB RS.there RS.at_; rw [h]
theorem Sa.leave (σ : RS) (c : Int) : Sa (σ.leaveR c).2 σ := by
  have h := Alike.leave (σ := σ) ⟨rfl, rfl⟩ c
  exact ⟨by rw [h.1], modB_eq h.1⟩
theorem Sa.enter (σ : RS) (c i : Int) : Sa (σ.enterR c i).2.2 σ := by
  have h := Alike.enter (σ := σ) ⟨rfl, rfl⟩ c i
  exact ⟨by rw [h.1], modB_eq h.1⟩
theorem there_passed (σ : RS) (c : Nat) (i : Int) : (σ.passed c).there i = σ.there i := by
  unfold RS.there
  rw [len_passed]
  by_cases h0 : 0 ≤ i
  · by_cases h1 : i < (σ.L.length : Int)
    · rw [RS.at_passed (by omega)]
      rfl
    · have e : decide (i < (σ.L.length : Int)) = false := by simpa using h1
      rw [e]; simp
  · have e : decide (0 ≤ i) = false := by simpa using h0
    rw [e]; simp
theorem modB_passed (σ : RS) (c : Nat) (i : Int) : (σ.passed c).modB i = σ.modB i := by
  unfold RS.modB
  rw [there_passed]
  cases h : σ.there i with
  | false => rfl
  | true =>
    obtain ⟨k, rfl, hk, _⟩ := RS.there_at h
    rw [Int.toNat_natCast, RS.at_passed hk]
    rfl
theorem Sa.safe (σ : RS) (c : Int) : Sa (σ.safeR c).2 σ := by
  unfold RS.safeR
  split
  · exact Sa.refl σ
  · split
    · exact Sa.refl σ
    · exact ⟨len_passed _ _, fun i => modB_passed _ _ i⟩
/-- What a patch of one byte at the front does. -/
theorem patch_bytes {σ : RS} (ok : σ.Ok) {i : Nat} (hi : i < σ.L.length) (z : UInt8) (j : Nat) :
    (j ≠ i → (σ.patchR (i : Int) 0 [z]).2.modB (j : Int) = σ.modB (j : Int)) ∧
    ((σ.patchR (i : Int) 0 [z]).1 = 0 → σ.modB (i : Int) ≠ [] ∧ (σ.patchR (i : Int) 0 [z]).2.modB (i : Int) = z :: (σ.modB (i : Int)).drop 1) := by
  unfold RS.patchR
  cases hth : σ.there (i : Int) with
  | false => rw [if_pos rfl]; exact ⟨fun _ => rfl, fun h => by cases h⟩
  | true =>
    rw [if_neg (by decide)]
    rw [Int.toNat_natCast]
    have hd : (σ.at_ i).dropped = false := by rw [there_nat hi] at hth; simpa using hth
    split
    · exact ⟨fun _ => rfl, fun h => by cases h⟩
    · split
      · exact ⟨fun _ => rfl, fun h => by cases h⟩
      · have hm : σ.modB (i : Int) = (σ.at_ i).bytes := by unfold RS.modB; rw [hth, if_pos rfl, Int.toNat_natCast]
        have hne : 0 < (σ.at_ i).bytes.length := by
          have e1 : σ.at_ i = σ.L[i] := by unfold RS.at_; rw [List.getD_eq_getElem?_getD, List.getElem?_eq_getElem hi]; rfl
          rw [e1]
          exact (ok.size _ (List.getElem_mem hi)).1
        have hln : ∀ e : ME, (σ.put i e).L.length = σ.L.length := fun e => by simp [RS.put]
        refine ⟨fun hj => ?_, fun _ => ⟨?_, ?_⟩⟩
        · unfold RS.modB RS.there
          rw [hln]
          simp only [Int.toNat_natCast]
          rw [RS.at_put hi, if_neg hj]
        · rw [hm]
          intro e
          rw [e] at hne
          exact absurd hne (by decide)
        · rw [hm]
          unfold RS.modB
          rw [there_nat (by rw [hln]; exact hi), Int.toNat_natCast, RS.at_put hi, if_pos rfl]
          unfold ME.patch spliced
          simp only [hd, Bool.not_false, if_true]
          simp
theorem Sa.patch_len (σ : RS) (i t : Int) (b : Bytes) : (σ.patchR i t b).2.L.length = σ.L.length := by
  unfold RS.patchR
  split
  · rfl
  · split
    · rfl
    · split
      · rfl
      · simp [RS.put]
theorem enter_none_zero {σ : RS} {c id : Int} (h : (σ.enterR c id).2.1 = 0) : σ.there id = true ∧ (σ.enterR c id).1 = σ.modB id ∧ (σ.enterR c id).2.2.cpu c = true ∧ (σ.enterR c id).2.2.busy c = true := by
  unfold RS.enterR at h ⊢
  cases hcpu : σ.cpu c with
  | false => rw [hcpu, if_pos rfl] at h; cases h
  | true =>
    rw [hcpu, if_neg (by decide)] at h
    rw [if_neg (by decide)]
    cases hth : σ.there id with
    | false => rw [hth, if_pos rfl] at h; cases h
    | true =>
      rw [hth, if_neg (by decide)] at h
      rw [if_neg (by decide)]
      cases hb : σ.busy c with
      | true => rw [hb, if_pos rfl] at h; cases h
      | false =>
        rw [hb, if_neg (by decide)] at h
        rw [if_neg (by decide)]
        cases ho : (σ.at_ id.toNat).owed.getD c.toNat false with
        | true => rw [ho, if_pos rfl] at h; cases h
        | false =>
          rw [if_neg (by decide)]
          obtain ⟨k, rfl, hk⟩ := RS.cpu_nat hcpu
          obtain ⟨i, rfl, hi, _⟩ := RS.there_at hth
          refine ⟨rfl, by unfold RS.modB; rw [if_pos hth], ?_, ?_⟩
          · unfold RS.cpu RS.left at *
            simpa using hcpu
          · have e : (σ.inn.set k (i : Int)).getD k 0 = i := by rw [List.getD_eq_getElem?_getD, List.getElem?_set_self hk]; rfl
            unfold RS.busy RS.left
            simp only [Int.toNat_natCast, e]
            simp
section
variable {n : Nat} {w0 w w' : World} {p q : Nat} {s : MS} {σ ρ : RS} {C : List (Nat × Obj)}
/-- A row that was made since is held by what its block holds. -/
theorem PQ.held (h : PQ n w0 p q s ρ C w) (hk : Since w.heap.size w w') {t : TypeId} {A : Option Addr} {k c : Nat} {xs : List Value} (ho : w'.ownsRow w.heap.size t 1 (.slice A k c) k xs) :
    ∃ D : List (Nat × Obj), PQ n w0 p q s ρ D w' ∧ ∀ W : World, (∀ x ∈ D, W.heap[x.1]? = some x.2) → CellsAt W A k xs := by
  obtain ⟨r, u, h1, h2, h3, h4, h5, hn, ht⟩ := id h
  have hq := h.later hk
  obtain ⟨hcap, hcl⟩ := own_cap ho
  rcases ho.2 with ⟨hv, hl⟩ | ⟨g, cap, cur, hv, hb, hg, hrest⟩
  · refine ⟨[], hq.less (fun x hx => by cases hx), fun W _ => ⟨hcl.1, hcl.2.1, fun h0 => ?_⟩⟩
    omega
  · injection hv with hA _ _
    subst hA
    refine ⟨[(g, .cells cur t (0, 0))], ?_, fun W hW => ⟨hcl.1, hcl.2.1, fun h0 => ⟨g, 0, rfl, blk_lt (hW _ List.mem_cons_self), fun j hj => ?_⟩⟩⟩
    · refine ⟨r, u, h1.since hk, h2.since hk, Keep.trans h3 (Since.mono hk h2.base), h4, fun x hx => ?_, hn, ht.since hk (by have := h2.base; omega)⟩
      rw [List.mem_singleton.1 hx]
      exact ⟨hg, fun hf => by have := h1.foot_lt _ hf; omega, fun hf => by have := h2.foot_lt _ hf; omega⟩
    · obtain ⟨b, off, e1, _, hc⟩ := hcl.2.2 h0
      injection e1 with e1
      injection e1 with e1 e2
      subst e1 e2
      have := hc j hj
      rw [blk_cell hg] at this
      rw [blk_cell (hW _ List.mem_cons_self)]
      exact this
/-- Module, and what it leaves. -/
theorem pModule (h : PQ n w0 p q σ.abs ρ C w) (ok : σ.Ok) (id : Int) : Calls Tryd.prog 15 #[.pointer (some ⟨p, 0, none⟩), .int .i64 id] w fun e w' => (∃ x : MX, e = .returned (.tuple #[modV (σ.modB id) x, .bool (σ.there id)])) ∧ Since w.heap.size w w' := by
  obtain ⟨r, u, h1, _⟩ := Iff.mp Iff.rfl h
  unfold RS.modB
  cases hth : σ.there id with
  | false =>
    rw [if_neg (by decide)]
    exact (module_none h1 id (ok.find_none hth)).mono fun e w' ⟨a, b⟩ => ⟨⟨_, a⟩, b⟩
  | true =>
    rw [if_pos rfl]
    obtain ⟨i, rfl, hi, hd⟩ := RS.there_at hth
    obtain ⟨j, hf, hj, hat, _⟩ := ok.find_there hi hd
    rw [Int.toNat_natCast]
    have := module_some h1 (i : Int) hf
    rw [hat] at this
    exact this.mono fun e w' ⟨a, b⟩ => ⟨a, b⟩
end
end Go.Proofs.YtnhajhejkecihaaDoor
/- From a walk to a law's row, where the row lists the tables that strconv.Itoa reads; and to the tied card. -/
namespace Go.Proofs.YtnhajhejkecihaaDoor
open Go.ChangeShapes Go.WideShapes Go.ChangeAt Go.RowKit

/-- A law's row out of its walk, under what the row lists. -/
theorem law_lift_laid {C : Checked} {os : Os} {f : FuncId} {fn : Func} {s : ChangeSpec} {H : Type} {enc : TypeId × Value → H} {tb : TypeId} {X : World → Array Value → Prop}
    (hX : ∀ (w w' : World) (args : Array Value), w.heap = w'.heap → X w args → X w' args)
    (own : ownKnob C.prog.godebug = none) (started : os.Started) (noInit : C.prog.inits.idxOf? f = none) (hfn : C.prog.funcs[f]? = some fn)
    (witness : ∃ (w : World) (tape : Tape) (i : Input), w.os = os ∧ (w.forCall tape i).Shaped C.prog ∧ i.vars = [] ∧ Input.okWide C.prog (w.forCall tape i) .any w.heap.size f i ∧
      ((s.pre enc C.prog fn [] false (w.forCall tape i).memory i.args ∧ X (w.forCall tape i).memory i.args) ∧ sizedMet enc C.prog fn (OpenSpec.ofChange s) false (w.forCall tape i).memory i.args) ∧ ({} : Assume).holds C.prog (lone (Frame.enter C.prog f i.args .normal) [] (w.forCall tape i)))
    (hl : laidOutB C.prog = true) (hpar : fn.params.toList.all (fun t => C.prog.readableRec t && decide (t < C.prog.types.size)) = true)
    (hvars : s.vars = []) (hrt : fn.resultTypes = #[tb]) (htb : C.prog.underlying tb = some .bool)
    (hspec : ∀ ds : List (DataW H), ds.length = fn.params.toList.length → (s.fn H (ds ++ [])).results = [.lit (.bool true)] ∧ (s.fn H (ds ++ [])).args = ds ∧ (s.fn H (ds ++ [])).vars = [])
    (walk : ∀ (W : World) (base : Nat) (args : Array Value) (ds : List (DataW H)) (p : List MemPlace),
      (∀ (j : Nat) t v, fn.params[j]? = some t → args[j]? = some v → Value.okWide C.prog W .any base t v) →
      DataW.TrodAll enc C.prog W 0 (fun _ => true) true fn.params.toList args.toList ds p → (∀ x ∈ p, x.block < W.heap.size) →
      (DataW.weightsEach C.prog fn.params.toList ds).all (· ≤ reachBytes) = true → X W args →
      Calls C.prog f args W fun e W' => e = .returned (.bool true) ∧ Below W.heap.size W W') :
    ReturnsInHanded {} C os f .any (fun w args => (s.pre enc C.prog fn [] false w args ∧ X w args) ∧ sizedMet enc C.prog fn (OpenSpec.ofChange s) false w args) (s.post enc C.prog fn false true false false) := by
  refine returnsInHanded_of_change_and hX own started noInit hfn witness ?_
  intro W base args ds gs before hval hW _ hsz hx _
  have hW' := hW
  obtain ⟨p, q, hA, hV, hbef, hfz, hnd⟩ := hW
  rw [hvars] at hV
  obtain ⟨rfl, rfl⟩ := trodVars_none hV
  simp only [List.append_nil] at hbef
  subst hbef
  have hlt : ∀ x ∈ before, x.block < W.heap.size := fun x hx => by simpa using hW'.lt x (by simpa using hx)
  have hlen : ds.length = fn.params.toList.length := trodAll_len hA
  obtain ⟨e1, e2, e3⟩ := hspec ds hlen
  have hsz' : (DataW.weightsEach C.prog fn.params.toList ds).all (· ≤ reachBytes) = true := by
    have hv : s.plain.varTypes C.prog = [] := by simp [DataSpec.varTypes, ChangeSpec.plain, hvars]
    rw [hv] at hsz
    simpa using hsz
  refine (walk W base args ds before hval hA hlt hsz' hx).mono fun e W' ⟨he, hb⟩ => ?_
  subst he
  refine ⟨_, rfl, ds, [], before, [], before, [], hW', ?_, ?_, ?_, hb.frame _, fun h => by cases h⟩
  · rw [e1, hrt]
    exact trodAll_cons_mk (shut_bool htb _) trodAll_mk0
  · rw [e2]
    exact below_trodAll hl hb hpar hlt hA
  · rw [e3, hvars]
    rfl

/-- The tables that the rows list. -/
def tabs : List (String × DataW Unit) := [("math/bits.deBruijn32tab", Rows.laid_math_bits_deBruijn32tab), ("math/bits.deBruijn64tab", Rows.laid_math_bits_deBruijn64tab), ("internal/strconv.uint64pow10", Rows.laid_internal_strconv_uint64pow10)]
def cellsOfTab : DataW Unit → Array Value
  | .agg l => (l.map fun d => match d with | .lit (.int k n) => Value.int k n | _ => undef).toArray
  | _ => #[]
theorem tb_of_laid {W : World} (h : laidMet Tryd.prog tabs W) : TB W := by
  have h2 : laidMet Tryd.prog [("internal/strconv.uint64pow10", Lib.tabData .u64 Lib.pow10Tab)] W := laidMet.tail (laidMet.tail h)
  exact Lib.tabIs_of_head (g := 0) (t := 138) (e := 128) (n := 20) TB.glob (by kernel_rfl) (by kernel_rfl) (by kernel_rfl) (by kernel_rfl) (by kernel_rfl) h2
/-- A start that fits: the settled world, the tables as their initialisers lay them. -/
noncomputable def laidWorld (os : Os) : World :=
  let w0 := World.holding Tryd.prog os ⟨#[], #[], []⟩
  let put (h : Array Obj) (g : Nat) (cs : Array Value) : Array Obj := h.modify g fun
    | .cells _ t frozen => .cells cs t frozen
    | o => o
  { w0 with heap := put (put (put w0.heap 2 (cellsOfTab Rows.laid_math_bits_deBruijn32tab)) 3 (cellsOfTab Rows.laid_math_bits_deBruijn64tab)) 0 (cellsOfTab Rows.laid_internal_strconv_uint64pow10) }
theorem laidWorld_met (os : Os) (args : Array Value) : laidMet Tryd.prog tabs ((laidWorld os).forCall (fun _ _ => 0) ⟨#[], args, []⟩).memory :=
  laidMet_of_run' 40 (by kernel_rfl) (by kernel_rfl)
end Go.Proofs.YtnhajhejkecihaaDoor
