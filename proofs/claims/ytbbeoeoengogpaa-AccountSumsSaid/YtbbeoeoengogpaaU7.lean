/- slices.Reverse of entries. -/
import Derived.Test.YtbbeoeoengogpaaU6
namespace Go.Proofs.Ytbbeoeoengogpaa
open Go.RowKit
set_option linter.unusedVariables false

theorem set_skip (x : Ent) (l : List Value) (m : Nat) (v : Value) (k : Nat) (hk : k = 7 + m) : (x.cells ++ l).set k v = x.cells ++ l.set m v := by
  subst hk
  rw [List.set_append_right _ _ (by rw [ent_cells_length]; omega), ent_cells_length, show 7 + m - 7 = m by omega]
theorem entc_set (e : Ent) : ∀ (es : List Ent) (i : Nat), i < es.length →
    (((((((entc es).set (i * 7) (.int .i64 e.id)).set (i * 7 + 1) (.int .i64 e.kind)).set (i * 7 + 2) (.int .i64 e.class_)).set (i * 7 + 3) (.int .i64 e.fn)).set (i * 7 + 4) (.int .i64 e.tenant)).set (i * 7 + 5) (.slice e.NA e.NL e.NC)).set (i * 7 + 6) (.slice e.IA e.IL e.IC) = entc (es.set i e)
  | [], _, h => by simp at h
  | x :: es, 0, _ => by simp [entc, Ent.cells]
  | x :: es, i + 1, h => by
    have ih := entc_set e es i (by simpa using h)
    rw [entc, set_skip x _ (i * 7) _ _ (by omega), set_skip x _ (i * 7 + 1) _ _ (by omega), set_skip x _ (i * 7 + 2) _ _ (by omega), set_skip x _ (i * 7 + 3) _ _ (by omega), set_skip x _ (i * 7 + 4) _ _ (by omega),
      set_skip x _ (i * 7 + 5) _ _ (by omega), set_skip x _ (i * 7 + 6) _ _ (by omega), ih, List.set_cons_succ, entc]
def putE (W : World) (g i : Nat) (e : Ent) : World :=
  ((((((W.setCell ⟨g, i * 7, none⟩ (.int .i64 e.id)).setCell ⟨g, i * 7 + 1, none⟩ (.int .i64 e.kind)).setCell ⟨g, i * 7 + 2, none⟩ (.int .i64 e.class_)).setCell ⟨g, i * 7 + 3, none⟩ (.int .i64 e.fn)).setCell ⟨g, i * 7 + 4, none⟩ (.int .i64 e.tenant)).setCell ⟨g, i * 7 + 5, none⟩ (.slice e.NA e.NL e.NC)).setCell ⟨g, i * 7 + 6, none⟩ (.slice e.IA e.IL e.IC)
theorem putE_own {W : World} {base g n c i : Nat} {es : List Ent} {e : Ent} (h : W.ownsRow base 56 7 (.slice (some ⟨g, 0, none⟩) n c) n (entc es)) (hi : i < es.length) : (putE W g i e).ownsRow base 56 7 (.slice (some ⟨g, 0, none⟩) n c) n (entc (es.set i e)) := by
  rw [← entc_set e es i hi]
  exact ((((((((h.stored _ _).1).stored _ _).1.stored _ _).1.stored _ _).1.stored _ _).1.stored _ _).1.stored _ _).1
theorem putE_keep (W : World) (g i : Nat) (e : Ent) : Keep (fun k => k = g) W (putE W g i e) := keep_set (keep_set (keep_set (keep_set (keep_set (keep_set (keep_set (Keep.refl _ W) _ _) _ _) _ _) _ _) _ _) _ _) _ _
/-- The cells of an entry, one by one. -/
theorem row_cells {W : World} {base g n c : Nat} {es : List Ent} (h : W.ownsRow base 56 7 (.slice (some ⟨g, 0, none⟩) n c) n (entc es)) (i : Nat) (hi : i < n) (e : Ent) (he : es.getD i Ent.dflt = e) :
    W.cell? ⟨g, i * 7, none⟩ = some (.int .i64 e.id) ∧ W.cell? ⟨g, i * 7 + 1, none⟩ = some (.int .i64 e.kind) ∧ W.cell? ⟨g, i * 7 + 2, none⟩ = some (.int .i64 e.class_) ∧ W.cell? ⟨g, i * 7 + 3, none⟩ = some (.int .i64 e.fn) ∧ W.cell? ⟨g, i * 7 + 4, none⟩ = some (.int .i64 e.tenant) ∧ W.cell? ⟨g, i * 7 + 5, none⟩ = some (.slice e.NA e.NL e.NC) ∧ W.cell? ⟨g, i * 7 + 6, none⟩ = some (.slice e.IA e.IL e.IC) ∧ (∀ j, W.frozen? ⟨g, j, none⟩ = false) := by
  obtain ⟨g', cur, e1, hb, hg, hc⟩ := own_at h (by omega)
  injection e1 with e1
  injection e1 with e1
  subst e1
  have hl := entc_inv h.1
  have get : ∀ r, r < 7 → W.cell? ⟨g, i * 7 + r, none⟩ = some (e.cells.getD r undef) := fun r hr => by rw [hc _ (by omega), entc_at es i r (by omega) hr, he]
  exact ⟨get 0 (by omega), get 1 (by omega), get 2 (by omega), get 3 (by omega), get 4 (by omega), get 5 (by omega), get 6 (by omega), blk_free hg⟩
structure RV (w : World) (base g n c : Nat) (es : List Ent) (fs : List Ent) (W : World) : Prop where
  own : W.ownsRow base 56 7 (.slice (some ⟨g, 0, none⟩) n c) n (entc fs)
  sums : ∀ t, sumT t fs = sumT t es
  il : ∀ e ∈ fs, e.IL ≤ 3
  keep : Keep (fun k => k = g) w W
theorem RV.quiet {w W W' : World} {base g n c : Nat} {es fs : List Ent} (h : RV w base g n c es fs W) (hk : Keep (fun _ => False) W W') : RV w base g n c es fs W' := ⟨hk.own h.own (fun _ _ => id), h.sums, h.il, Keep.trans h.keep (Keep.mono hk (fun _ => False.elim))⟩
theorem RV.swap {w W : World} {base g n c : Nat} {es fs : List Ent} (h : RV w base g n c es fs W) (i j : Nat) (hi : i < n) (hj : j < n) (hij : i ≠ j) (a b : Ent) (ha : fs.getD i Ent.dflt = a) (hb : fs.getD j Ent.dflt = b) :
    RV w base g n c es (swapE fs i j) (putE (putE W g i b) g j a) := by
  have hl := entc_inv h.own.1
  subst ha hb
  exact ⟨putE_own (putE_own h.own (by omega)) (by simp; omega), fun t => (sumT_swap t fs i j (by omega) (by omega) hij).trans (h.sums t), swap_il i j (by omega) (by omega) h.il, Keep.trans h.keep (Keep.trans (putE_keep _ _ _ _) (putE_keep _ _ _ _))⟩
set_option maxRecDepth 100000 in
set_option maxHeartbeats 4000000 in
theorem reverse_some {w : World} {base g n c : Nat} {es : List Ent} (ho : w.ownsRow base 56 7 (.slice (some ⟨g, 0, none⟩) n c) n (entc es)) (hil : ∀ e ∈ es, e.IL ≤ 3) (hn : n ≤ 16) :
    Calls Try.prog 24 #[.slice (some ⟨g, 0, none⟩) n c] w fun e w' => e = .returned (.tuple #[]) ∧ ∃ fs, RV w base g n c es fs w' := by
  have R0 := Lib.hid (show RV w base g n c es es w from ⟨ho, fun _ => rfl, hil, Keep.refl _ _⟩)
  clear ho hil
  go_enter Try.func24, Try.ntmps24
  go_wp2_with fail
  go_loopw [2, 3] (fun i j wr => ∃ (k : Nat) (jv : Int), k ≤ 16 ∧ i = .int .i64 (k : Int) ∧ j = .int .i64 jv ∧ (jv = (n : Int) - 1 - k) ∧ ∃ fs, Hid (RV w base g n c es fs wr)) (fun i _ _ => 20 - (intOf i).toNat)
  case atStart => exact ⟨0, _, by omega, rfl, rfl, by omega, _, R0⟩
  case round =>
    obtain ⟨k, jv, hk, rfl, rfl, hjv, fs, RR⟩ := hrel
    obtain ⟨wo, rfl⟩ : ∃ wo : World, wo = wr := ⟨_, rfl⟩
    clear R0
    by_cases hlt : (k : Int) < jv
    · obtain ⟨j, rfl⟩ := Int.eq_ofNat_of_zero_le (show 0 ≤ jv by omega)
      have hkj : k < j := by omega
      have hjn : j < n := by omega
      have hkn : k < n := by omega
      have hb : decide (k < j) = true := by simpa using hkj
      obtain ⟨a, ha⟩ : ∃ a, fs.getD k Ent.dflt = a := ⟨_, rfl⟩
      obtain ⟨b, hb'⟩ : ∃ b, fs.getD j Ent.dflt = b := ⟨_, rfl⟩
      obtain ⟨x0, x1, x2, x3, x4, x5, x6, hfz⟩ := row_cells RR.out.own k hkn a ha
      have z0 := hfz (k * 7)
      have z1 := hfz (k * 7 + 1)
      have z2 := hfz (k * 7 + 2)
      have z3 := hfz (k * 7 + 3)
      have z4 := hfz (k * 7 + 4)
      have z5 := hfz (k * 7 + 5)
      have z6 := hfz (k * 7 + 6)
      have v0 := hfz (j * 7)
      have v1 := hfz (j * 7 + 1)
      have v2 := hfz (j * 7 + 2)
      have v3 := hfz (j * 7 + 3)
      have v4 := hfz (j * 7 + 4)
      have v5 := hfz (j * 7 + 5)
      have v6 := hfz (j * 7 + 6)
      clear hfz
      obtain ⟨y0, y1, y2, y3, y4, y5, y6, _⟩ := row_cells RR.out.own j hjn b hb'
      have HAB := Lib.hid (And.intro ha hb')
      have HJV := Lib.hid hjv
      clear ha hb' hlt hjv
      go_wp2_with fail
      have VS := Lib.hid ((RR.out.swap k j hkn hjn (by omega) a b HAB.out.1 HAB.out.2).quiet (keep_draw _ _))
      unfold putE at VS
      go_region
      all_goals go_wp2_with fail
      all_goals exact ⟨⟨k + 1, (j : Int) - 1, by omega, by go_num, by go_num, by have := HJV.out; omega, _, VS⟩, by simp [intOf]; omega⟩
    · have hb : decide ((k : Int) < jv) = false := by simpa using hlt
      go_wp2_with fail
      go_end0
      exact ⟨rfl, fs, RR.out⟩
theorem reverse_ents {w : World} {A : Option Addr} {n c : Nat} {es : List Ent} (h : RowE w A n c es) :
    Calls Try.prog 24 #[.slice A n c] w fun e w' => e = .returned (.tuple #[]) ∧ ∃ fs, RowE w' A n c fs ∧ (∀ t, sumT t fs = sumT t es) ∧ Keep (fun k => (Value.slice A n c).ownBlock = some k) w w' := by
  by_cases h0 : n = 0
  · subst h0
    obtain rfl := h.nil rfl
    obtain rfl := h.cap rfl
    have H := Lib.hid h
    clear h
    go_enter Try.func24, Try.ntmps24
    go_wp2_with fail
    go_loopw [2, 3] (fun i j wr => i = .int .i64 0 ∧ j = .int .i64 (-1) ∧ w = wr) (fun i _ _ => 0)
    case atStart => exact ⟨rfl, rfl, rfl⟩
    case round =>
      obtain ⟨rfl, rfl, rfl⟩ := hrel
      go_wp2_with fail
      go_end0
      exact ⟨rfl, es, H.out, fun _ => rfl, Keep.refl _ _⟩
  · obtain ⟨base, ho⟩ := h.own
    obtain ⟨g, cur, rfl, hg1, hg2, hg3⟩ := own_at ho (by omega)
    refine (reverse_some ho h.il h.le).mono ?_
    rintro e w' ⟨he, fs, hr⟩
    exact ⟨he, fs, ⟨⟨base, hr.own⟩, h.nil, h.le, hr.il⟩, hr.sums, Keep.mono hr.keep (fun k e => by subst e; rfl)⟩
end Go.Proofs.Ytbbeoeoengogpaa
