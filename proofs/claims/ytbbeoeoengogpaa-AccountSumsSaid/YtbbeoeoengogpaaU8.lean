/- The reference's sums. -/
import Derived.Test.YtbbeoeoengogpaaU7
import Derived.StillTailTactics
namespace Go.Proofs.Ytbbeoeoengogpaa
open Go.RowKit
set_option linter.unusedVariables false

def pS (T : Nat) (es : List Ent) (t k : Nat) : List Int := (List.range T).map (fun i : Nat => if i < t then sumT (i : Int) es else if i = t then sumT (i : Int) (es.take k) else 0)
theorem pS_length (T : Nat) (es : List Ent) (t k : Nat) : (pS T es t k).length = T := by simp [pS]
theorem pS_at (T : Nat) (es : List Ent) (t k i : Nat) (h : i < T) : (pS T es t k).getD i 0 = if i < t then sumT (i : Int) es else if i = t then sumT (i : Int) (es.take k) else 0 := by
  simp [pS, List.getD_eq_getElem?_getD, h]
theorem pS_start (T : Nat) (es : List Ent) : pS T es 0 0 = List.replicate T 0 := by
  apply List.ext_getElem (by simp [pS])
  intro i h1 h2
  simp [pS, sumT]
theorem pS_end (T : Nat) (es : List Ent) : pS T es T 0 = sumsL T es := by
  apply List.ext_getElem (by simp [pS, sumsL])
  intro i h1 h2
  have : i < T := by simpa [pS] using h1
  simp [pS, sumsL, this]
theorem pS_next (T : Nat) (es : List Ent) (t k : Nat) (h : es.length ≤ k) : pS T es t k = pS T es (t + 1) 0 := by
  unfold pS
  apply List.ext_getElem (by simp)
  intro i h1 h2
  simp only [List.getElem_map, List.getElem_range]
  rw [List.take_of_length_le h]
  by_cases h1 : i < t
  · rw [if_pos h1, if_pos (by omega)]
  · by_cases h2 : i = t
    · rw [if_neg h1, if_pos h2, if_pos (by omega)]
    · rw [if_neg h1, if_neg h2, if_neg (by omega)]
      split
      · simp [sumT]
      · rfl
theorem take_succ_sum (t : Int) (es : List Ent) (k : Nat) (h : k < es.length) : sumT t (es.take (k + 1)) = sumT t (es.take k) + (if (es.getD k Ent.dflt).tenant = t then (es.getD k Ent.dflt).size else 0) := by
  rw [List.take_succ_eq_append_getElem h, sumT_append, List.getD_eq_getElem?_getD, List.getElem?_eq_getElem h]
  simp [sumT]
theorem pS_hit (T : Nat) (es : List Ent) (t k : Nat) (h : k < es.length) (hT : (es.getD k Ent.dflt).tenant = (t : Int)) : (pS T es t k).set t (sumT (t : Int) (es.take k) + (es.getD k Ent.dflt).size) = pS T es t (k + 1) := by
  apply List.ext_getElem (by simp [pS])
  intro i h1 h2
  rw [List.getElem_set]
  simp only [pS, List.getElem_map, List.getElem_range]
  split
  · rename_i e
    subst e
    rw [if_neg (by omega), if_pos rfl, take_succ_sum _ _ _ h, if_pos hT]
  · rename_i e
    by_cases h1 : i < t
    · rw [if_pos h1, if_pos h1]
    · rw [if_neg h1, if_neg h1, if_neg (by omega), if_neg (by omega)]
theorem pS_miss (T : Nat) (es : List Ent) (t k : Nat) (h : k < es.length) (hT : ¬ (es.getD k Ent.dflt).tenant = (t : Int)) : pS T es t k = pS T es t (k + 1) := by
  unfold pS
  apply List.ext_getElem (by simp)
  intro i h1 h2
  simp only [List.getElem_map, List.getElem_range]
  by_cases h1 : i < t
  · rw [if_pos h1, if_pos h1]
  · by_cases h2 : i = t
    · subst h2
      rw [if_neg h1, if_pos rfl, if_neg h1, if_pos rfl, take_succ_sum _ _ _ h, if_neg hT]
      omega
    · rw [if_neg h1, if_neg h2, if_neg h1, if_neg h2]

theorem size_any (a b c d : Int) (NA : Option Addr) (NL NC : Nat) (IA : Option Addr) (IL IC : Nat) (hIL : IL ≤ 3) (w : World) :
    Calls Try.prog 34 #[.agg #[.int .i64 a, .int .i64 b, .int .i64 c, .int .i64 d, .slice NA NL NC, .slice IA IL IC]] w fun e w' => e = .returned (.int .i64 (16 + 8 * (IL : Int))) ∧ Keep (fun _ => False) w w' := by
  have hk := (Keep.refl (fun _ => False) w).alloc' (.cells #[.int .i64 a, .int .i64 b, .int .i64 c, .int .i64 d, .slice NA NL NC, .slice IA IL IC] 54)
  have HK := Lib.hid hk
  clear hk
  go_enter Try.func34, Try.ntmps34
  go_wp2
  go_ret
  exact ⟨by go_num, HK.out⟩
structure SV (w : World) (T : Nat) (A : Option Addr) (n c : Nat) (es : List Ent) (o : Value) (t k : Nat) (W : World) : Prop where
  own : W.ownsRow w.heap.size 3 1 o T (ints (pS T es t k))
  since : Since w.heap.size w W
set_option maxRecDepth 100000 in
set_option maxHeartbeats 4000000 in
theorem refsums_any {w : World} {A : Option Addr} {n c : Nat} {es : List Ent} (h : RowE w A n c es) (T : Nat) (hT : 1 ≤ T ∧ T ≤ 4) :
    Calls Try.prog 26 #[.slice A n c, .int .i64 (T : Int)] w fun e w' => ∃ v, e = .returned v ∧ w'.ownsRow w.heap.size 3 1 v T (ints (sumsL T es)) ∧ Since w.heap.size w w' := by
  have H := Lib.hid h
  have hn := h.le
  have hel := h.len
  have g1 : decide ((T : Int) < 1) = false := by simp; omega
  have g2 : decide (4 < (T : Int)) = false := by simp; omega
  have g3 : decide (4 < T) = false := by simp; omega
  have g4 : decide (T < 1) = false := by simp; omega
  have hmk : ∀ W : World, (Instr.makeSlice 22 (.int .i64 (T : Int)) (.int .i64 (T : Int))).run Try.prog W = .ok (.slice (some ⟨W.heap.size, 0, none⟩) T T) (W.alloc (.cells (madeCells #[.int .i64 0] T) 3)) :=
    fun W => run_make_row' 22 3 (.int .i64 0) 8 Try.ints.ht Try.ints.info rfl .i64 .i64 T (by omega) (by omega) W
  have S0 := Lib.hid (show SV w T A n c es (.slice (some ⟨w.heap.size, 0, none⟩) T T) 0 0 (w.alloc (.cells (madeCells #[.int .i64 0] T) 3)) from
    ⟨by
      have := own_new w 3 (madeCells #[.int .i64 0] T) T w.heap.size (by simp [madeCells]) (by omega) (Nat.le_refl _)
      simp only [toList_madeCells_one] at this
      rw [pS_start]
      have e : ints (List.replicate T 0) = List.replicate T (.int .i64 0) := by simp [ints]
      rw [e]
      exact this, Since.of ((Keep.refl (fun _ => False) w).alloc' _)⟩)
  clear h
  go_enter Try.func26, Try.ntmps26
  go_wp2_with fail
  obtain ⟨g0, hg0⟩ : ∃ g0, w.heap.size = g0 := ⟨_, rfl⟩
  obtain ⟨w0, hw0⟩ : ∃ w0, w.alloc (.cells (madeCells #[.int .i64 0] T) 3) = w0 := ⟨_, rfl⟩
  have HG := Lib.hid hg0
  rw [hw0, hg0] at S0
  rw [hw0, hg0]
  clear hw0 hg0 hmk
  go_loopw [6] (fun i wr => ∃ t : Nat, t ≤ T ∧ i = .int .i64 (t : Int) ∧ Hid (SV w T A n c es (.slice (some ⟨g0, 0, none⟩) T T) t 0 wr)) (fun i _ => T + 1 - (intOf i).toNat)
  case atStart => exact ⟨0, Nat.zero_le _, rfl, S0⟩
  case round =>
    obtain ⟨t, ht, rfl, SS⟩ := hrel
    obtain ⟨wo, rfl⟩ : ∃ wo : World, wo = wr := ⟨_, rfl⟩
    clear S0
    by_cases htT : t < T
    · have hb : decide (t < T) = true := by simpa using htT
      go_wp2_with fail
      go_loopw [7] (fun i wr => ∃ k : Nat, k ≤ n ∧ i = .int .i64 (k : Int) ∧ Hid (SV w T A n c es (.slice (some ⟨g0, 0, none⟩) T T) t k wr)) (fun i _ => n + 1 - (intOf i).toNat)
      case atStart => exact ⟨0, Nat.zero_le _, rfl, SS⟩
      case round =>
        obtain ⟨k, hk, rfl, SK⟩ := hrel
        obtain ⟨wx, rfl⟩ : ∃ wx : World, wx = wr := ⟨_, rfl⟩
        clear SS
        by_cases hkn : k < n
        · have hb2 : decide (k < n) = true := by simpa using hkn
          have RX := Lib.hid (H.out.since SK.out.since)
          obtain ⟨base, ho⟩ := RX.out.own
          obtain ⟨g, cur, rfl, _, _, _⟩ := own_at ho (by omega)
          obtain ⟨e, he⟩ : ∃ e, es.getD k Ent.dflt = e := ⟨_, rfl⟩
          obtain ⟨x0, x1, x2, x3, x4, x5, x6, _⟩ := row_cells ho k hkn e he
          have hIL : e.IL ≤ 3 := he ▸ RX.out.il _ (getD_mem (by omega))
          have HE := Lib.hid he
          have HO := Lib.hid ho
          clear he ho
          by_cases hte : e.tenant = (t : Int)
          · have hb3 : (e.tenant == (t : Int)) = true := by simpa using hte
            have hsum := pS_hit T es t k (by omega) (by rw [HE.out]; exact hte)
            have hc := own_cell SK.out.own t htT
            rw [pS_at T es t k t htT, if_neg (by omega), if_pos rfl] at hc
            have hbd := sumT_bd (t : Int) (es.take k) (fun x hx => RX.out.il x (List.mem_of_mem_take hx))
            have htl : (es.take k).length ≤ 16 := by rw [List.length_take]; omega
            rw [HE.out] at hsum
            obtain ⟨sv, hsv⟩ : ∃ sv, sumT (t : Int) (es.take k) = sv := ⟨_, rfl⟩
            rw [hsv] at hc hbd hsum
            have hsb : 0 ≤ sv ∧ sv ≤ 640 := by omega
            have hsz : e.size = 16 + 8 * (e.IL : Int) := rfl
            rw [hsz] at hsum
            have HSM := Lib.hid hsum
            clear hsum hsv hsz hbd htl
            go_wp2_with fail
            go_region_law (go_simp; go_at_call 34; refine (size_any _ _ _ _ _ _ _ _ _ _ hIL _).mono ?_; rintro e5 w5 ⟨rfl, hk5⟩; have hk6 := Keep.trans (keep_draw (fun _ => False) wx) hk5; have hown := hk6.own SK.out.own (fun _ _ => id); have hc5 := cell_kept hk6 hc id; have hf5 := hown.frozenAt t; have hst := (hown.stored t (.int .i64 (sv + (16 + 8 * (e.IL : Int))))).1; rw [ints_set, HSM.out] at hst; have SN := Lib.hid (show SV w T (some ⟨g, 0, none⟩) n c es (.slice (some ⟨g0, 0, none⟩) T T) t (k + 1) (w5.setCell ⟨g0, t, none⟩ (.int .i64 (sv + (16 + 8 * (e.IL : Int))))) from ⟨hst, Keep.trans SK.out.since (Keep.trans (Since.of hk6) ((Keep.refl _ w5).setCell (a := ⟨g0, t, none⟩) (.inl (by have := HG.out; simp only; omega)) _))⟩); clear hst hown hk5 hk6)
            all_goals go_wp2_with fail
            all_goals exact ⟨⟨k + 1, by omega, by go_num, SN⟩, by simp [intOf]; omega⟩
          · have hb3 : (e.tenant == (t : Int)) = false := by simpa using hte
            have hmiss := pS_miss T es t k (by omega) (by rw [HE.out]; exact hte)
            have SN := Lib.hid (show SV w T (some ⟨g, 0, none⟩) n c es (.slice (some ⟨g0, 0, none⟩) T T) t (k + 1) wx from ⟨hmiss ▸ SK.out.own, SK.out.since⟩)
            clear hmiss
            go_wp2_with fail
            exact ⟨⟨k + 1, by omega, by go_num, SN⟩, by simp [intOf]; omega⟩
        · have hb2 : decide (k < n) = false := by simpa using hkn
          have hnx := pS_next T es t k (by omega)
          have SN := Lib.hid (show SV w T A n c es (.slice (some ⟨g0, 0, none⟩) T T) (t + 1) 0 wx from ⟨hnx ▸ SK.out.own, SK.out.since⟩)
          clear hnx
          go_wp2_with fail
          exact ⟨⟨t + 1, by omega, by go_num, SN⟩, by simp [intOf]; omega⟩
    · have hb : decide (t < T) = false := by simpa using htT
      have htt : t = T := by omega
      have hown := SS.out.own
      rw [htt, pS_end] at hown
      have HF := Lib.hid (And.intro hown SS.out.since)
      clear htt hown
      go_wp2_with fail
      go_ret
      exact ⟨_, rfl, HF.out.1, HF.out.2⟩
end Go.Proofs.Ytbbeoeoengogpaa
