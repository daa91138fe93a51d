/- Install: Enter. -/
import Derived.Test.YtnhajhejkecihaaIW
import Derived.Test.YtnhajhejkecihaaRUK
import Derived.Deep.Cut
import Derived.StillTailTactics
namespace Go.Proofs.Ytnhajhejkecihaa
open Go.RowKit Go.Lib
set_option linter.unusedVariables false
set_option linter.unusedSimpArgs false

theorem owedS_nat (l : List Bool) (c : Nat) : owedS l (c : Int) = l.getD c false := by simp [owedS]
/-- Behind a Fetch of what a processor does not owe the caches do not lie. -/
theorem Coh.fetched {s : MS} {M : Bytes} {fs : List Cache} (h : Coh s M fs) (c a m : Nat) : Coh s M (fs.set c (fill M a m (fs.getD c (fun _ => none)))) := by
  refine ⟨by rw [List.length_set]; exact h.len, h.mem, fun d hd e he ho k h1 h2 => ?_⟩
  rw [List.length_set] at hd
  by_cases hcd : c = d
  · subst hcd
    rw [getD_set_self _ _ _ _ hd]
    unfold fill
    split
    · exact .inr rfl
    · exact h.cache c hd e he ho k h1 h2
  · rw [getD_set_ne' _ _ _ _ _ hcd]
    exact h.cache d hd e he ho k h1 h2
set_option maxRecDepth 100000 in
set_option maxHeartbeats 4000000 in
theorem enter_none {n : Nat} {w : World} {p : Nat} {r : SR} {s : MS} (h : IsStore n w p r s) {c : Nat} (hc : c < s.inn.length) (id : Int) (hf : s.find id = none) : Calls Try.prog 11 #[.pointer (some ⟨p, 0, none⟩), .int .i64 c, .int .i64 id] w fun e w' => e = .returned (.tuple #[.string ⟨#[]⟩, .int .i64 14]) ∧ w = w' := by
  have HC := Lib.hid (closed_any h)
  have HP := Lib.hid (cpu_any h c hc)
  have HF := Lib.hid (find_any h id)
  rw [hf] at HF
  change Hid (Calls _ _ _ _ fun e w' => e = Ending.returned (Value.pointer none) ∧ _) at HF
  clear h hf
  go_enter Try.func11, Try.ntmps11
  go_wp2_with fail
  ((with_reducible refine HC.out.mono ?_); rintro e w' ⟨rfl, rfl⟩)
  go_wp2_with fail
  ((with_reducible refine HP.out.mono ?_); rintro e w' ⟨rfl, rfl⟩)
  go_wp2_with fail
  ((with_reducible refine HF.out.mono ?_); rintro e w' ⟨rfl, rfl⟩)
  clear HC HP HF
  go_wp2_with fail
  go_ret2
  exact ⟨rfl, rfl⟩
/-- What is known of an entry that was found. -/
theorem found_at {s : MS} {id : Int} {i : Nat} (h : s.find id = some i) : i < s.all.length ∧ ((s.all.getD i ME.dflt).id : Int) = id ∧ (s.all.getD i ME.dflt).dropped = false := by
  unfold MS.find at h
  rw [List.findIdx?_eq_some_iff_getElem] at h
  obtain ⟨hi, h1, _⟩ := h
  simp only [Bool.and_eq_true, beq_iff_eq, Bool.not_eq_true'] at h1
  rw [List.getD_eq_getElem?_getD, List.getElem?_eq_getElem hi]
  exact ⟨hi, h1.1, h1.2⟩
set_option maxRecDepth 100000 in
set_option maxHeartbeats 4000000 in
theorem enter_stale {n : Nat} {w : World} {p : Nat} {r : SR} {s : MS} (h : IsStore n w p r s) {c : Nat} (hc : c < s.inn.length) (id : Int) {i : Nat} (hf : s.find id = some i) (hin : s.inn.getD c 0 < 0) (ho : (s.all.getD i ME.dflt).owed.getD c false = true) :
    Calls Try.prog 11 #[.pointer (some ⟨p, 0, none⟩), .int .i64 c, .int .i64 id] w fun e w' => e = .returned (.tuple #[.string ⟨#[]⟩, .int .i64 40]) ∧ w = w' := by
  have HC := Lib.hid (closed_any h)
  have HP := Lib.hid (cpu_any h c hc)
  have HF := Lib.hid (find_any h id)
  rw [hf] at HF
  obtain ⟨hi, _, _⟩ := found_at hf
  obtain ⟨eb, heb⟩ : ∃ eb, r.es.getD i 0 = eb := ⟨_, rfl⟩
  change Hid (Calls _ _ _ _ fun e w' => e = Ending.returned (Value.pointer (some ⟨r.es.getD i 0, 0, none⟩)) ∧ _) at HF
  have e12 := h.ecell hi 12
  have hfb := (h.ents i hi).2
  rw [heb] at HF e12
  obtain ⟨o, hoo⟩ : ∃ o, r.os.getD i 0 = o := ⟨_, rfl⟩
  rw [hoo] at e12 hfb
  have e12' : w.cell? ⟨eb, 12, none⟩ = some (.map (some o)) := e12
  have hl := hfb.look Try.underlying3 Try.underlying64 Try.underlying4 (by kernel_rfl) (i := (c : Int)) (wf64 (by have := h.inv.cpus; omega))
  rw [owedS_nat, ho] at hl
  have c1 := h.c1
  obtain ⟨q0, _⟩ := h.innc hc
  obtain ⟨v, hv⟩ : ∃ v, s.inn.getD c 0 = v := ⟨_, rfl⟩
  rw [hv] at q0 hin
  have hb : decide (c < s.inn.length) = true := by simpa using hc
  have hneg : decide (0 ≤ v) = false := by simp; omega
  clear h hv hf hi heb hoo e12 hfb ho
  go_enter Try.func11, Try.ntmps11
  go_wp2_with fail
  ((with_reducible refine HC.out.mono ?_); rintro e w' ⟨rfl, rfl⟩)
  go_wp2_with fail
  ((with_reducible refine HP.out.mono ?_); rintro e w' ⟨rfl, rfl⟩)
  go_wp2_with fail
  ((with_reducible refine HF.out.mono ?_); rintro e w' ⟨rfl, rfl⟩)
  clear HC HP HF
  go_wp2_with fail
  go_ret2
  exact ⟨rfl, rfl⟩
set_option maxRecDepth 100000 in
set_option maxHeartbeats 8000000 in
theorem enter_ok {n : Nat} {w : World} {p : Nat} {r : SR} {s : MS} (h : IsStore n w p r s) {c : Nat} (hc : c < s.inn.length) (id : Int) {i : Nat} (hf : s.find id = some i) (hin : s.inn.getD c 0 < 0) (ho : (s.all.getD i ME.dflt).owed.getD c false = false) :
    Calls Try.prog 11 #[.pointer (some ⟨p, 0, none⟩), .int .i64 c, .int .i64 id] w fun e w' => e = .returned (.tuple #[.string (sb (s.all.getD i ME.dflt).bytes), .int .i64 0]) ∧ IsStore n w' p r (s.left c id) ∧ Keep (r.foot p) w w' := by
  have HC := Lib.hid (closed_any h)
  have HP := Lib.hid (cpu_any h c hc)
  have HF := Lib.hid (find_any h id)
  rw [hf] at HF
  obtain ⟨hi, hid, _⟩ := found_at hf
  obtain ⟨eb, heb⟩ : ∃ eb, r.es.getD i 0 = eb := ⟨_, rfl⟩
  change Hid (Calls _ _ _ _ fun e w' => e = Ending.returned (Value.pointer (some ⟨r.es.getD i 0, 0, none⟩)) ∧ _) at HF
  have hmem : s.all.getD i ME.dflt ∈ s.all := getD_mem hi
  obtain ⟨e, he⟩ : ∃ e, s.all.getD i ME.dflt = e := ⟨_, rfl⟩
  have e12 := h.ecell hi 12
  have hfb := (h.ents i hi).2
  rw [heb] at HF e12
  obtain ⟨o, hoo⟩ : ∃ o, r.os.getD i 0 = o := ⟨_, rfl⟩
  rw [hoo] at e12 hfb
  have e12' : w.cell? ⟨eb, 12, none⟩ = some (.map (some o)) := e12
  have hl := hfb.look Try.underlying3 Try.underlying64 Try.underlying4 (by kernel_rfl) (i := (c : Int)) (wf64 (by have := h.inv.cpus; omega))
  rw [owedS_nat, ho] at hl
  rw [he] at hmem ho hid
  rw [he]
  have HIE := Lib.hid (And.intro hi (And.intro heb he))
  have c1 := h.c1
  obtain ⟨q0, q1⟩ := h.innc hc
  have hids := h.inv.ids e hmem
  have T1 := h.turnInn hc id (by omega)
  have K1 : Keep (r.foot p) w (w.setCell ⟨r.ib, c, none⟩ (.int .i64 id)) := Keep.mono (keep_set (Keep.refl (fun i => i = r.ib) w) c (.int .i64 id)) (fun k e => .inr (.inr (.inl e)))
  have hE1 : (w.setCell ⟨r.ib, c, none⟩ (.int .i64 id)).cell? ⟨eb, 1, none⟩ = some (.int .i64 ((16 * e.a : Nat) : Int)) := by rw [← heb, ← he]; exact T1.ecell hi 1
  have hE4 : (w.setCell ⟨r.ib, c, none⟩ (.int .i64 id)).cell? ⟨eb, 4, none⟩ = some (.string (sb e.bytes)) := by rw [← heb, ← he]; exact T1.ecell hi 4
  have hP0 := T1.c0
  have hsz := h.inv.size e hmem
  have HT := Lib.hid (And.intro T1 (And.intro K1 (And.intro hmem (And.intro ho hsz))))
  obtain ⟨v, hv⟩ : ∃ v, s.inn.getD c 0 = v := ⟨_, rfl⟩
  rw [hv] at q0 hin
  have hb : decide (c < s.inn.length) = true := by simpa using hc
  have hneg : decide (0 ≤ v) = false := by simp; omega
  have hsb : (sb e.bytes).size = e.bytes.length := sb_size _
  clear h hv hf hi heb hoo e12 hfb ho he hmem hid hids T1 K1 hsz
  go_enter Try.func11, Try.ntmps11
  go_wp2_with fail
  ((with_reducible refine HC.out.mono ?_); rintro ee w' ⟨rfl, rfl⟩)
  go_wp2_with fail
  ((with_reducible refine HP.out.mono ?_); rintro ee w' ⟨rfl, rfl⟩)
  go_wp2_with fail
  ((with_reducible refine HF.out.mono ?_); rintro ee w' ⟨rfl, rfl⟩)
  clear HC HP HF
  go_upto_region 11 with (fail)
  obtain ⟨W1, hW⟩ : ∃ W1, w.setCell ⟨r.ib, c, none⟩ (.int .i64 id) = W1 := ⟨_, rfl⟩
  rw [hW] at HT hE1 hE4 hP0
  rw [hW]
  clear hW q0 q1 c1 e12' hl
  obtain ⟨M, fs, hB, hco⟩ := HT.out.1.board
  have hcf : c < fs.length := by rw [hco.len]; simpa [MS.left] using hc
  have hFE := fetch_any (w := W1.drew) (hB.keep (keep_draw (fun _ => False) W1) (fun _ _ h => h)) c e.a e.bytes.length hcf HT.out.2.2.2.2.1 (by have := HT.out.2.2.2.2.2; unfold ME.stop lns at this; omega) (fun k h1 h2 => hco.cache c hcf e HT.out.2.2.1 HT.out.2.2.2.1 k h1 (by unfold ME.stop lns; omega))
  rw [hco.mem e HT.out.2.2.1] at hFE
  obtain ⟨a16, ha16⟩ : ∃ x, 16 * e.a = x := ⟨_, rfl⟩
  rw [ha16] at hFE
  have HFE := Lib.hid hFE
  have HEB := Lib.hid (And.intro HIE.out.1 (And.intro HIE.out.2.1 (And.intro HIE.out.2.2 ha16)))
  have HCO := Lib.hid (And.intro hB (And.intro hco hcf))
  clear hFE hB hco hcf ha16 hE1 hE4 hP0
  refine wp_region_drewU (S := (fun w' => Hid (IsStore n w' p r (s.left c id)))) (D := []) (by kernel_rfl) (by exact Lib.hid (HT.out.1.keep (keep_draw (fun _ => False) W1) (fun _ _ h => h))) (fun hH => ?_)
  refine wpAnyU_take (i := 0) (v := ?_) rfl (by kernel_rfl) (by kernel_rfl) (by kernel_rfl) (by kernel_rfl) (fun _ _ _ h => h) (Or.inl ⟨by rfl, ?_⟩) hH ?_
  rotate_left
  · (intro w'' hSw; (try dsimp only at hSw); go_simp; try with_reducible rfl)
  change wpAnyU _ _ _ _ _ _ _ _ (Act.put _ (some 46) _) _
  try simp only [Act.put, List.setIfInBounds_toArray, List.set_cons_zero, List.set_cons_succ]
  refine wpAnyU_take (i := 1) (v := ?_) rfl (by kernel_rfl) (by kernel_rfl) (by kernel_rfl) (by kernel_rfl) (fun _ _ _ h => h) (Or.inl ⟨by rfl, ?_⟩) hH ?_
  rotate_left
  · (intro w'' hSw; (try dsimp only at hSw); go_simp; try with_reducible rfl)
  change wpAnyU _ _ _ _ _ _ _ _ (Act.put _ (some 47) _) _
  try simp only [Act.put, List.setIfInBounds_toArray, List.set_cons_zero, List.set_cons_succ]
  refine wpAnyU_take (i := 2) (v := ?_) rfl (by kernel_rfl) (by kernel_rfl) (by kernel_rfl) (by kernel_rfl) (fun _ _ _ h => h) (Or.inl ⟨by rfl, ?_⟩) hH ?_
  rotate_left
  · (intro w'' hSw; (try dsimp only at hSw); go_simp; try with_reducible rfl)
  change wpAnyU _ _ _ _ _ _ _ _ (Act.put _ (some 48) _) _
  try simp only [Act.put, List.setIfInBounds_toArray, List.set_cons_zero, List.set_cons_succ]
  refine wpAnyU_take (i := 3) (v := ?_) rfl (by kernel_rfl) (by kernel_rfl) (by kernel_rfl) (by kernel_rfl) (fun _ _ _ h => h) (Or.inl ⟨by rfl, ?_⟩) hH ?_
  rotate_left
  · (intro w'' hSw; have q : w''.cell? ⟨p, 0, none⟩ = some (.pointer (some ⟨r.bb, 0, none⟩)) := hSw.out.c0; go_simp; try with_reducible rfl)
  change wpAnyU _ _ _ _ _ _ _ _ (Act.put _ (some 49) _) _
  try simp only [Act.put, List.setIfInBounds_toArray, List.set_cons_zero, List.set_cons_succ]
  refine wpAnyU_take (i := 4) (v := ?_) rfl (by kernel_rfl) (by kernel_rfl) (by kernel_rfl) (by kernel_rfl) (fun _ _ _ h => h) (Or.inl ⟨by rfl, ?_⟩) hH ?_
  rotate_left
  · (intro w'' hSw; (try dsimp only at hSw); go_simp; try with_reducible rfl)
  change wpAnyU _ _ _ _ _ _ _ _ (Act.put _ (some 50) _) _
  try simp only [Act.put, List.setIfInBounds_toArray, List.set_cons_zero, List.set_cons_succ]
  refine wpAnyU_take (i := 5) (v := ?_) rfl (by kernel_rfl) (by kernel_rfl) (by kernel_rfl) (by kernel_rfl) (fun _ _ _ h => h) (Or.inl ⟨by rfl, ?_⟩) hH ?_
  rotate_left
  · (intro w'' hSw; (try dsimp only at hSw); go_simp; try with_reducible rfl)
  change wpAnyU _ _ _ _ _ _ _ _ (Act.put _ (some 51) _) _
  try simp only [Act.put, List.setIfInBounds_toArray, List.set_cons_zero, List.set_cons_succ]
  refine wpAnyU_take (i := 6) (v := ?_) rfl (by kernel_rfl) (by kernel_rfl) (by kernel_rfl) (by kernel_rfl) (fun _ _ _ h => h) (Or.inl ⟨by rfl, ?_⟩) hH ?_
  rotate_left
  · (intro w'' hSw; (try dsimp only at hSw); go_simp; try with_reducible rfl)
  change wpAnyU _ _ _ _ _ _ _ _ (Act.put _ (some 52) _) _
  try simp only [Act.put, List.setIfInBounds_toArray, List.set_cons_zero, List.set_cons_succ]
  refine wpAnyU_take (i := 7) (v := ?_) rfl (by kernel_rfl) (by kernel_rfl) (by kernel_rfl) (by kernel_rfl) (fun _ _ _ h => h) (Or.inl ⟨by rfl, ?_⟩) hH ?_
  rotate_left
  · (intro w'' hSw; (try dsimp only at hSw); go_simp; try with_reducible rfl)
  change wpAnyU _ _ _ _ _ _ _ _ (Act.put _ (some 53) _) _
  try simp only [Act.put, List.setIfInBounds_toArray, List.set_cons_zero, List.set_cons_succ]
  refine wpAnyU_take (i := 8) (v := ?_) rfl (by kernel_rfl) (by kernel_rfl) (by kernel_rfl) (by kernel_rfl) (fun _ _ _ h => h) (Or.inl ⟨by rfl, ?_⟩) hH ?_
  rotate_left
  · (intro w'' hSw; have q : w''.cell? ⟨eb, 1, none⟩ = some (.int .i64 (a16 : Int)) := (by rw [← HEB.out.2.1, ← HEB.out.2.2.2, ← HEB.out.2.2.1]; exact hSw.out.ecell HEB.out.1 1); go_simp; try with_reducible rfl)
  change wpAnyU _ _ _ _ _ _ _ _ (Act.put _ (some 54) _) _
  try simp only [Act.put, List.setIfInBounds_toArray, List.set_cons_zero, List.set_cons_succ]
  refine wpAnyU_take (i := 9) (v := ?_) rfl (by kernel_rfl) (by kernel_rfl) (by kernel_rfl) (by kernel_rfl) (fun _ _ _ h => h) (Or.inl ⟨by rfl, ?_⟩) hH ?_
  rotate_left
  · (intro w'' hSw; (try dsimp only at hSw); go_simp; try with_reducible rfl)
  change wpAnyU _ _ _ _ _ _ _ _ (Act.put _ (some 55) _) _
  try simp only [Act.put, List.setIfInBounds_toArray, List.set_cons_zero, List.set_cons_succ]
  refine wpAnyU_take (i := 10) (v := ?_) rfl (by kernel_rfl) (by kernel_rfl) (by kernel_rfl) (by kernel_rfl) (fun _ _ _ h => h) (Or.inl ⟨by rfl, ?_⟩) hH ?_
  rotate_left
  · (intro w'' hSw; (try dsimp only at hSw); go_simp; try with_reducible rfl)
  change wpAnyU _ _ _ _ _ _ _ _ (Act.put _ (some 56) _) _
  try simp only [Act.put, List.setIfInBounds_toArray, List.set_cons_zero, List.set_cons_succ]
  refine wpAnyU_take (i := 11) (v := ?_) rfl (by kernel_rfl) (by kernel_rfl) (by kernel_rfl) (by kernel_rfl) (fun _ _ _ h => h) (Or.inl ⟨by rfl, ?_⟩) hH ?_
  rotate_left
  · (intro w'' hSw; (try dsimp only at hSw); go_simp; try with_reducible rfl)
  change wpAnyU _ _ _ _ _ _ _ _ (Act.put _ (some 57) _) _
  try simp only [Act.put, List.setIfInBounds_toArray, List.set_cons_zero, List.set_cons_succ]
  refine wpAnyU_take (i := 12) (v := ?_) rfl (by kernel_rfl) (by kernel_rfl) (by kernel_rfl) (by kernel_rfl) (fun _ _ _ h => h) (Or.inl ⟨by rfl, ?_⟩) hH ?_
  rotate_left
  · (intro w'' hSw; (try dsimp only at hSw); go_simp; try with_reducible rfl)
  change wpAnyU _ _ _ _ _ _ _ _ (Act.put _ (some 58) _) _
  try simp only [Act.put, List.setIfInBounds_toArray, List.set_cons_zero, List.set_cons_succ]
  refine wpAnyU_take (i := 13) (v := ?_) rfl (by kernel_rfl) (by kernel_rfl) (by kernel_rfl) (by kernel_rfl) (fun _ _ _ h => h) (Or.inl ⟨by rfl, ?_⟩) hH ?_
  rotate_left
  · (intro w'' hSw; have q : w''.cell? ⟨eb, 4, none⟩ = some (.string (sb e.bytes)) := (by rw [← HEB.out.2.1, ← HEB.out.2.2.1]; exact hSw.out.ecell HEB.out.1 4); go_simp; try with_reducible rfl)
  change wpAnyU _ _ _ _ _ _ _ _ (Act.put _ (some 59) _) _
  try simp only [Act.put, List.setIfInBounds_toArray, List.set_cons_zero, List.set_cons_succ]
  refine wpAnyU_take (i := 14) (v := ?_) rfl (by kernel_rfl) (by kernel_rfl) (by kernel_rfl) (by kernel_rfl) (fun _ _ _ h => h) (Or.inl ⟨by rfl, ?_⟩) hH ?_
  rotate_left
  · (intro w'' hSw; (try dsimp only at hSw); go_simp; try with_reducible rfl)
  change wpAnyU _ _ _ _ _ _ _ _ (Act.put _ (some 60) _) _
  try simp only [Act.put, List.setIfInBounds_toArray, List.set_cons_zero, List.set_cons_succ]
  refine wpAnyU_ready (rs := [15]) (by kernel_rfl) (by simp) ?_
  refine AllReadyU.cons rfl (fun Kn hKn => ?_) AllReadyU.nil
  go_simp
  go_at_call 28
  (with_reducible refine HFE.out.mono ?_)
  rintro ee w2 ⟨rfl, hb2, hk2⟩
  have HR := Lib.hid (show IsStore n w2 p r (s.left c id) ∧ Keep (r.foot p) w w2 from by
    have hm : r.br.ms.getD c 0 ∈ r.br.ms := getD_mem (by rw [HCO.out.1.msl]; exact HCO.out.2.2)
    refine ⟨(HT.out.1.keep (keep_draw (fun _ => False) W1) (fun _ _ h => h)).turnBoard hb2 (HCO.out.2.1.fetched c _ _) hk2 (.inr hm), ?_⟩
    exact Keep.trans (Keep.trans HT.out.2.1 (keep_draw _ W1)) (Keep.mono hk2 (fun k e => .inr (.inl (.inr (.inr (.inr (e ▸ hm))))))))
  clear hb2 hk2
  refine hKn.out _ _ ?_ (fun hH => ?_)
  · (exact Lib.hid HR.out.1)
  clear hKn Kn
  try simp only [Act.put, List.setIfInBounds_toArray, List.set_cons_zero, List.set_cons_succ]
  refine wpAnyU_take (i := 16) (v := ?_) rfl (by kernel_rfl) (by kernel_rfl) (by kernel_rfl) (by kernel_rfl) (fun _ _ _ h => h) (Or.inl ⟨by rfl, ?_⟩) hH ?_
  rotate_left
  · (intro w'' hSw; (try dsimp only at hSw); go_simp; try with_reducible rfl)
  change wpAnyU _ _ _ _ _ _ _ _ (Act.put _ (some 62) _) _
  try simp only [Act.put, List.setIfInBounds_toArray, List.set_cons_zero, List.set_cons_succ]
  refine wpAnyU_take (i := 17) (v := ?_) rfl (by kernel_rfl) (by kernel_rfl) (by kernel_rfl) (by kernel_rfl) (fun _ _ _ h => h) (Or.inl ⟨by rfl, ?_⟩) hH ?_
  rotate_left
  · (intro w'' hSw; (try dsimp only at hSw); go_simp; try with_reducible rfl)
  change wpAnyU _ _ _ _ _ _ _ _ (Act.put _ (some 63) _) _
  try simp only [Act.put, List.setIfInBounds_toArray, List.set_cons_zero, List.set_cons_succ]
  refine wpAnyU_take (i := 18) (v := ?_) rfl (by kernel_rfl) (by kernel_rfl) (by kernel_rfl) (by kernel_rfl) (fun _ _ _ h => h) (Or.inl ⟨by rfl, ?_⟩) hH ?_
  rotate_left
  · (intro w'' hSw; (try dsimp only at hSw); go_simp; try with_reducible rfl)
  change wpAnyU _ _ _ _ _ _ _ _ (Act.put _ (some 6) _) _
  try simp only [Act.put, List.setIfInBounds_toArray, List.set_cons_zero, List.set_cons_succ]
  refine wpAnyU_take (i := 19) (v := ?_) rfl (by kernel_rfl) (by kernel_rfl) (by kernel_rfl) (by kernel_rfl) (fun _ _ _ h => h) (Or.inl ⟨by rfl, ?_⟩) hH ?_
  rotate_left
  · (intro w'' hSw; (try dsimp only at hSw); go_simp; try with_reducible rfl)
  change wpAnyU _ _ _ _ _ _ _ _ (Act.put _ (some 7) _) _
  try simp only [Act.put, List.setIfInBounds_toArray, List.set_cons_zero, List.set_cons_succ]
  refine wpAnyU_done (by kernel_rfl) ?_ _
  go_wp2_with fail
  go_ret2
  exact ⟨rfl, HR.out.1, HR.out.2⟩
end Go.Proofs.Ytnhajhejkecihaa
