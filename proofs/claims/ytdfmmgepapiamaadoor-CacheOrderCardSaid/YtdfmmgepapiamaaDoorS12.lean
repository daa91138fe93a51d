/- slices.Contains, slices.IndexFunc and slices.DeleteFunc as CacheOrder calls them. -/
import Derived.Test.YtdfmmgepapiamaaDoorS5
import Derived.Laws.OwnMore
import Derived.Deep.AppendLies
import Derived.Lib.SliceRun
namespace Go.Proofs.YtdfmmgepapiamaaDoor
open Go.RowKit
set_option linter.unusedVariables false

theorem contains_any {w : World} {A : Option Addr} {n : Nat} {xs : List Int} (h : IntsAt w A n xs) (c : Nat) (x : Int) :
    Calls Tryd.prog 23 #[.slice A n c, .int .i64 x] w fun e w' => e = .returned (.bool (xs.contains x)) ∧ w = w' := by
  have hl := h.length
  by_cases h0 : n = 0
  · subst h0
    obtain rfl : xs = [] := List.eq_nil_of_length_eq_zero hl
    refine (Tryd.slices_Contains_int_empty A c x w).mono ?_
    rintro e w' ⟨he, rfl⟩
    exact ⟨he, rfl⟩
  · obtain ⟨b, off, rfl, hb, hc⟩ := h.2.2 (by omega)
    refine (Tryd.slices_Contains_int b off n c xs x w (by omega) h.2.1 (fun j hj => ?_)).mono ?_
    · rw [hc j (by omega)]
      have := ints_getD xs j hj
      rw [List.getD_eq_getElem?_getD, List.getElem?_eq_getElem (by rw [ints_length]; exact hj)] at this
      rw [List.getElem?_eq_getElem (by rw [ints_length]; exact hj)]
      exact congrArg some (by simpa using this)
    · rintro e w' ⟨he, rfl⟩
      rw [List.take_of_length_le (by omega)] at he
      exact ⟨he, rfl⟩
/-- The closure of CacheOrder. -/
theorem pred_any (x g : Int) (B : Nat) (w : World) (hc : w.cell? ⟨B, 0, none⟩ = some (.int .i64 g)) :
    Calls Tryd.prog 25 #[.int .i64 x, .pointer (some ⟨B, 0, none⟩)] w fun e w' => e = .returned (.bool (x == g)) ∧ w = w' := by
  go_enter Tryd.func25, Tryd.ntmps25
  go_wp2
  go_ret
  exact ⟨rfl, rfl⟩
def FirstI (xs : List Int) (x : Int) (k : Nat) : Prop := k < xs.length ∧ xs.getD k 0 = x ∧ ∀ j, j < k → xs.getD j 0 ≠ x
def AbsentI (xs : List Int) (x : Int) : Prop := ∀ j, j < xs.length → xs.getD j 0 ≠ x

set_option maxHeartbeats 1000000 in
theorem indexf_some {w : World} {A : Option Addr} {n : Nat} {xs : List Int} (h : IntsAt w A n xs) (c : Nat) (g : Int) (B : Nat) (hB : w.cell? ⟨B, 0, none⟩ = some (.int .i64 g)) {k : Nat} (hk : FirstI xs g k) :
    Calls Tryd.prog 36 #[.slice A n c, (.func (.func 25) #[] #[.pointer (some ⟨B, 0, none⟩)])] w fun e w' => e = .returned (.int .i64 (k : Int)) ∧ w = w' := by
  have hn := h.bound
  have hl := h.length
  have hkn : k < n := by have := hk.1; omega
  have H := Lib.hid h
  have HK := Lib.hid hk
  have HB := Lib.hid hB
  clear h hl hk hB
  go_enter Tryd.func36, Tryd.ntmps36
  go_wp2_with fail
  go_loop [8] (fun i => ∃ j : Nat, j ≤ k ∧ i = .int .i64 (j : Int)) (fun i => k + 1 - (intOf i).toNat)
  case atStart => exact ⟨0, Nat.zero_le _, rfl⟩
  case round =>
    obtain ⟨j, hj, rfl⟩ := hrel
    obtain ⟨b, off, rfl, q1⟩ := IntsAt.at_ H.out j (by omega)
    have hb : decide (j < n) = true := by simp; omega
    have hjn : j < n := by omega
    have hp := fun x => pred_any x g B w HB.out
    obtain ⟨a, ha⟩ : ∃ a, xs.getD j 0 = a := ⟨_, rfl⟩
    rw [ha] at q1
    have HP := Lib.hid (hp a)
    have HA := Lib.hid ha
    clear hp ha
    by_cases hjk : j = k
    · have hag : (a == g) = true := by rw [← HA.out, hjk, HK.out.2.1]; simp
      have hjk' : (j : Int) = (k : Int) := by omega
      have HJ := Lib.hid hjk'
      have HAG := Lib.hid hag
      clear hjk hag hjk'
      go_wp2_with fail
      ((with_reducible refine HP.out.mono ?_); rintro e w' ⟨rfl, rfl⟩)
      rw [HAG.out]
      go_wp2_with fail
      go_ret
      exact ⟨by rw [← HJ.out]; rfl, rfl⟩
    · have hag : (a == g) = false := by
        have := HK.out.2.2 j (by omega)
        rw [HA.out] at this
        simpa using this
      have HAG := Lib.hid hag
      clear hag
      go_wp2_with fail
      ((with_reducible refine HP.out.mono ?_); rintro e w' ⟨rfl, rfl⟩)
      rw [HAG.out]
      go_wp2_with fail
      exact ⟨⟨j + 1, by omega, by go_num⟩, by simp [intOf]; omega⟩
set_option maxHeartbeats 1000000 in
theorem indexf_none {w : World} {A : Option Addr} {n : Nat} {xs : List Int} (h : IntsAt w A n xs) (c : Nat) (g : Int) (B : Nat) (hB : w.cell? ⟨B, 0, none⟩ = some (.int .i64 g)) (hk : AbsentI xs g) :
    Calls Tryd.prog 36 #[.slice A n c, (.func (.func 25) #[] #[.pointer (some ⟨B, 0, none⟩)])] w fun e w' => e = .returned (.int .i64 (-1)) ∧ w = w' := by
  have hn := h.bound
  have hl := h.length
  have H := Lib.hid h
  have HK := Lib.hid hk
  have HL := Lib.hid hl
  have HB := Lib.hid hB
  clear h hl hk hB
  go_enter Tryd.func36, Tryd.ntmps36
  go_wp2_with fail
  go_loop [8] (fun i => ∃ j : Nat, j ≤ n ∧ i = .int .i64 (j : Int)) (fun i => n + 1 - (intOf i).toNat)
  case atStart => exact ⟨0, Nat.zero_le _, rfl⟩
  case round =>
    obtain ⟨j, hj, rfl⟩ := hrel
    by_cases hjn : j = n
    · subst hjn
      have hb : decide (j < j) = false := by simp
      go_wp2_with fail
      go_ret
      exact ⟨rfl, rfl⟩
    · obtain ⟨b, off, rfl, q1⟩ := IntsAt.at_ H.out j (by omega)
      have hb : decide (j < n) = true := by simp; omega
      have hjn' : j < n := by omega
      have hp := fun x => pred_any x g B w HB.out
      have hag : (xs.getD j 0 == g) = false := by
        have := HK.out j (by rw [HL.out]; omega)
        simpa using this
      obtain ⟨a, ha⟩ : ∃ a, xs.getD j 0 = a := ⟨_, rfl⟩
      rw [ha] at q1 hag
      have HP := Lib.hid (hp a)
      have HAG := Lib.hid hag
      clear hag hp ha
      go_wp2_with fail
      ((with_reducible refine HP.out.mono ?_); rintro e w' ⟨rfl, rfl⟩)
      rw [HAG.out]
      go_wp2_with fail
      exact ⟨⟨j + 1, by omega, by go_num⟩, by simp [intOf]; omega⟩

/-! ### DeleteFunc -/
theorem own_cap' {w : World} {base n size g c : Nat} {e : TypeId} {xs : List Value} (h : w.ownsRow base e size (.slice (some ⟨g, 0, none⟩) n c) n xs) : n ≤ c := by
  rcases h.2 with ⟨h1, rfl⟩ | ⟨g', cap, cur, h1, _, _, h2, _⟩
  · cases h1
  · injection h1 with _ h2' h3
    omega
def LF (xs : List Int) (k i : Nat) : List Int := (xs.eraseIdx k).take i ++ xs.drop i
theorem lf_start (xs : List Int) (k : Nat) (h : k < xs.length) : LF xs k k = xs := by
  unfold LF
  rw [List.eraseIdx_eq_take_drop_succ, List.take_append_of_le_length (by rw [List.length_take]; omega), List.take_take, Nat.min_self, List.take_append_drop]
theorem lf_length (xs : List Int) (k i : Nat) (hk : k < xs.length) (h : i < xs.length) : (LF xs k i).length = xs.length := by
  unfold LF
  rw [List.length_append, List.length_take, List.length_drop, List.length_eraseIdx_of_lt hk]
  omega
theorem lf_at (xs : List Int) (k i : Nat) (hk : k < xs.length) (h : i + 1 < xs.length) : (LF xs k i).getD (i + 1) 0 = xs.getD (i + 1) 0 := by
  unfold LF
  rw [List.getD_eq_getElem?_getD, List.getD_eq_getElem?_getD, List.getElem?_append_right (by rw [List.length_take]; omega), List.length_take, List.length_eraseIdx_of_lt hk, List.getElem?_drop]
  congr 2
  omega
theorem lf_step (xs : List Int) (k i : Nat) (hk : k ≤ i) (h : i + 1 < xs.length) : (LF xs k i).set i (xs.getD (i + 1) 0) = LF xs k (i + 1) := by
  unfold LF
  have hl : ((xs.eraseIdx k).take i).length = i := by rw [List.length_take, List.length_eraseIdx_of_lt (by omega)]; omega
  rw [List.set_append_right _ _ (by omega), hl, Nat.sub_self, List.drop_eq_getElem_cons (by omega : i < xs.length), List.set_cons_zero,
    List.take_succ_eq_append_getElem (by rw [List.length_eraseIdx_of_lt (by omega)]; omega), List.append_assoc, List.singleton_append, List.getElem_eraseIdx_of_ge (h' := hk)]
  congr 2
  simp [List.getD_eq_getElem?_getD, List.getElem?_eq_getElem h]
theorem lf_end (xs : List Int) (k m : Nat) (hk : k < xs.length) (h : xs.length = m + 1) : LF xs k m = xs.eraseIdx k ++ xs.drop m := by
  unfold LF
  rw [List.take_of_length_le (by rw [List.length_eraseIdx_of_lt hk]; omega)]
theorem own_begin {w : World} {base g m c : Nat} {e : TypeId} {xs ys : List Value} (h : w.ownsRow base e 1 (.slice (some ⟨g, 0, none⟩) (m + 1) c) (m + 1) (xs ++ ys)) (hx : xs.length = m) : w.ownsRow base e 1 (.slice (some ⟨g, 0, none⟩) m c) m xs := by
  obtain ⟨hl, h0 | ⟨g', cap, cur, e1, hg, hh, hn, hc, hs, ht⟩⟩ := h
  · cases h0.1
  · injection e1 with e1 _ e3
    injection e1 with e1
    injection e1 with e1
    subst e1 e3
    refine ⟨by simpa using hx, .inr ⟨g, c, cur, rfl, hg, hh, by omega, hc, hs, ?_⟩⟩
    have := congrArg (List.take m) ht
    rw [List.take_take] at this
    rw [Nat.mul_one] at *
    rw [Nat.min_eq_left (by omega)] at this
    rw [this, List.take_append_of_le_length (by omega), List.take_of_length_le (by omega)]
theorem zeroI (w : World) : (zeroValue 3).run Tryd.prog w = .ok (.int .i64 0) w := by kernel_rfl
theorem run_cut_from' (w : World) (g n c l : Nat) (hl : l ≤ n) (hc : l < c) :
    (Instr.sliceAt 37 (.slice (some ⟨g, 0, none⟩) n c) (some (.int .i64 (l : Int))) none none).run Tryd.prog w = .ok (.slice (some ⟨g, l, none⟩) (n - l) (c - l)) w := by
  have h1 : (0 : Int) ≤ l := by omega
  have h2 : (l : Int) ≤ n := by omega
  have h3 : ¬ c = l := by omega
  go_simp
theorem run_cut_to' (w : World) (A : Option Addr) (n c l : Nat) (hl : l ≤ c) :
    (Instr.sliceAt 37 (.slice A n c) none (some (.int .i64 (l : Int))) none).run Tryd.prog w = .ok (.slice A l c) w := by
  have h1 : (0 : Int) ≤ l := by omega
  have h2 : (l : Int) ≤ c := by omega
  go_simp
set_option maxHeartbeats 2000000 in
theorem del_some {w : World} {base G m c : Nat} {xs : List Int} (ho : w.ownsRow base 3 1 (.slice (some ⟨G, 0, none⟩) (m + 1) c) (m + 1) (ints xs)) (g : Int) (B : Nat) (hB : w.cell? ⟨B, 0, none⟩ = some (.int .i64 g)) (hBG : B ≠ G) {k : Nat} (hk : FirstI xs g k) (hnd : ∀ j, k < j → j < xs.length → xs.getD j 0 ≠ g) :
    Calls Tryd.prog 24 #[.slice (some ⟨G, 0, none⟩) (m + 1) c, (.func (.func 25) #[] #[.pointer (some ⟨B, 0, none⟩)])] w fun e w' => e = .returned (.slice (some ⟨G, 0, none⟩) m c) ∧ w'.ownsRow base 3 1 (.slice (some ⟨G, 0, none⟩) m c) m (ints (xs.eraseIdx k)) ∧ Keep (fun i => i = G) w w' := by
  have hlen : xs.length = m + 1 := by have := ho.1; rw [ints_length] at this; omega
  have hcap := own_cap' ho
  obtain ⟨A0, c0, e0, hcs⟩ := owns_cells ho
  injection e0 with e1 _ e3
  subst e1 e3
  have hbd := hcs.bound
  have hix := indexf_some hcs c g B hB hk
  have HIX := Lib.hid hix
  have HB := Lib.hid hB
  have HO := Lib.hid ho
  have HL := Lib.hid hlen
  have hkm : k ≤ m := by have := hk.1; omega
  have HK := Lib.hid hk
  have HND := Lib.hid hnd
  have hbk : ((k : Int) == -1) = false := by simp
  clear ho hB hk hlen hnd hcs hix
  go_enter Tryd.func24, Tryd.ntmps24
  go_wp2_with fail
  ((with_reducible refine HIX.out.mono ?_); rintro e w0 ⟨rfl, rfl⟩)
  go_wp2_with fail
  go_loopw [5, 6] (fun u i wr => ∃ j : Nat, k ≤ j ∧ j ≤ m ∧ u = .int .i64 (j : Int) ∧ i = .int .i64 ((j : Int) + 1) ∧ Hid (wr.ownsRow base 3 1 (.slice (some ⟨G, 0, none⟩) (m + 1) c) (m + 1) (ints (LF xs k j))) ∧ Hid (Keep (fun i => i = G) w wr)) (fun _ i _ => m + 2 - (intOf i).toNat)
  case atStart => exact ⟨k, Nat.le_refl _, hkm, rfl, by go_num, Lib.hid (by rw [lf_start _ _ (by rw [HL.out]; omega)]; exact HO.out), Lib.hid (Keep.refl _ _)⟩
  case round =>
    obtain ⟨j, hj1, hj2, rfl, rfl, HW, HKW⟩ := hrel
    obtain ⟨wo, rfl⟩ : ∃ wo : World, wo = wr := ⟨_, rfl⟩
    by_cases hjm : j < m
    · have q1 : wo.cell? ⟨G, j + 1, none⟩ = some (.int .i64 (xs.getD (j + 1) 0)) := by
        rw [HW.out.cellAt (j + 1) (by omega), ← lf_at xs k j (by rw [HL.out]; omega) (by rw [HL.out]; omega)]
        have hl := lf_length xs k j (by rw [HL.out]; omega) (by rw [HL.out]; omega)
        rw [List.getElem?_eq_getElem (by rw [ints_length, hl, HL.out]; omega)]
        have := ints_getD (LF xs k j) (j + 1) (by rw [hl, HL.out]; omega)
        rw [List.getD_eq_getElem?_getD, List.getElem?_eq_getElem (by rw [ints_length, hl, HL.out]; omega)] at this
        exact congrArg some (by simpa using this)
      have hst := lf_step xs k j hj1 (by rw [HL.out]; omega)
      have hne := HND.out (j + 1) (by omega) (by rw [HL.out]; omega)
      obtain ⟨a, ha⟩ : ∃ a, xs.getD (j + 1) 0 = a := ⟨_, rfl⟩
      rw [ha] at q1 hst hne
      have hag : (a == g) = false := by simpa using hne
      have hBc : wo.cell? ⟨B, 0, none⟩ = some (.int .i64 g) := cell_kept HKW.out HB.out hBG
      have HP := Lib.hid (pred_any a g B wo hBc)
      rw [hag] at HP
      have q2 := HW.out.frozenAt j
      have hset := (HW.out.stored j (.int .i64 a)).1
      rw [ints_set, hst] at hset
      have HS := Lib.hid hset
      obtain ⟨u0, q3⟩ : ∃ u, wo.cell? ⟨G, j, none⟩ = some u := by
        refine ⟨_, (HW.out.cellAt j (by omega)).trans (List.getElem?_eq_getElem (by rw [ints_length, lf_length xs k j (by rw [HL.out]; omega) (by rw [HL.out]; omega), HL.out]; omega))⟩
      have hi1 : (0 : Int) ≤ (j : Int) + 1 := by omega
      have hi2 : (j : Int) + 1 < ((m + 1 : Nat) : Int) := by omega
      have hi3 : (j : Int) < (m : Int) := by omega
      have hi4 : ((j : Int) + 1).toNat = j + 1 := by omega
      have hb : decide ((j : Int) + 1 < ((m + 1 : Nat) : Int)) = true := by simp; omega
      have hb2 : decide (j + 1 < m + 1) = true := by simp; omega
      clear hne hst ha hag hBc hset
      go_wp2_with fail
      ((with_reducible refine HP.out.mono ?_); rintro e w' ⟨rfl, rfl⟩)
      go_wp2_with fail
      exact ⟨⟨j + 1, by omega, by omega, by go_num, by go_num, HS, Lib.hid (Keep.trans HKW.out (keep_set (Keep.refl _ wo) _ _))⟩, by simp [intOf]; omega⟩
    · obtain rfl : j = m := by omega
      have hlf := lf_end xs k j (by rw [HL.out]; omega) HL.out
      have how := HW.out
      rw [hlf] at how
      have hb : decide ((j : Int) + 1 < ((j + 1 : Nat) : Int)) = false := by simp
      have hb2 : decide (j + 1 < j + 1) = false := by simp
      have hcf := fun W => run_cut_from' W G (j + 1) c j (by omega) (by omega)
      rw [show j + 1 - j = 1 by omega] at hcf
      have hct := fun W => run_cut_to' W (some ⟨G, 0, none⟩) (j + 1) c j (by omega)
      obtain ⟨u0, q3⟩ : ∃ u, wo.cell? ⟨G, j, none⟩ = some u := by
        refine ⟨_, (HW.out.cellAt j (by omega)).trans (List.getElem?_eq_getElem (by rw [ints_length, lf_length xs k j (by rw [HL.out]; omega) (by rw [HL.out]; omega), HL.out]; omega))⟩
      have hclr : ∀ ty, (Builtin.clear_ #[37] ty #[.slice (some ⟨G, j, none⟩) 1 (c - j)]).run Tryd.prog wo = .ok (.tuple #[]) (wo.setCell ⟨G, j, none⟩ (.int .i64 0)) := by
        intro ty
        have hz1 : ∀ i, i < 1 → (wo.cell? ⟨G, j + i, none⟩).isSome = true := fun i hi => by
          obtain rfl : i = 0 := by omega
          rw [Nat.add_zero, q3]
          rfl
        have hz2 : ∀ i, i < 1 → wo.frozen? ⟨G, j + i, none⟩ = false := fun i hi => by
          obtain rfl : i = 0 := by omega
          rw [Nat.add_zero]
          exact HW.out.frozenAt j
        have := Lib.run_clear_slice (P := Tryd.prog) wo 37 3 ty (.int .i64 0) Tryd.underlying37 zeroI rfl rfl G j 1 (c - j) (by omega) hz1 hz2
        rw [this]
        simp [World.setCells]
      have hst := (how.stored j (.int .i64 0)).1
      rw [ints_append, List.set_append_right _ _ (by rw [ints_length, List.length_eraseIdx_of_lt (by rw [HL.out]; omega), HL.out]; omega)] at hst
      have hbg := own_begin hst (by rw [ints_length, List.length_eraseIdx_of_lt (by rw [HL.out]; omega), HL.out]; omega)
      have HBG := Lib.hid hbg
      clear hst how hlf hbg q3
      go_wp2_with fail
      go_ret
      exact ⟨rfl, HBG.out, Keep.trans HKW.out (keep_set (Keep.refl _ wo) _ _)⟩
theorem del_none {w : World} {A : Option Addr} {n c : Nat} {xs : List Int} (h : IntsAt w A n xs) (g : Int) (B : Nat) (hB : w.cell? ⟨B, 0, none⟩ = some (.int .i64 g)) (hk : AbsentI xs g) :
    Calls Tryd.prog 24 #[.slice A n c, (.func (.func 25) #[] #[.pointer (some ⟨B, 0, none⟩)])] w fun e w' => e = .returned (.slice A n c) ∧ w = w' := by
  have HIX := Lib.hid (indexf_none h c g B hB hk)
  clear h hB hk
  go_enter Tryd.func24, Tryd.ntmps24
  go_wp2_with fail
  ((with_reducible refine HIX.out.mono ?_); rintro e w0 ⟨rfl, rfl⟩)
  go_wp2_with fail
  go_ret
  exact ⟨rfl, rfl⟩
end Go.Proofs.YtdfmmgepapiamaaDoor
