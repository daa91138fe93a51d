/- Install: Add where there are sixteen modules; the plain law of InstallRoom. -/
import Derived.Test.YtnhajhejkecihaaI12
namespace Go.Proofs.Ytnhajhejkecihaa
open Go.RowKit Go.Lib
set_option linter.unusedVariables false
set_option linter.unusedSimpArgs false

set_option maxRecDepth 100000 in
set_option maxHeartbeats 4000000 in
theorem add_full {n : Nat} {w : World} {p : Nat} {r : SR} {s : MS} (h : IsStore n w p r s) {b : Bytes} (x : MX) (hb : 0 < b.length ∧ b.length ≤ 4096) (hf : s.all.length = 16) :
    Calls Try.prog 8 #[.pointer (some ⟨p, 0, none⟩), modV b x] w fun e w' => e = .returned (.tuple #[.int .i64 0, .int .i64 2]) ∧ Since w.heap.size w w' := by
  have H := Lib.hid h
  obtain ⟨L, hL⟩ : ∃ L, b.length = L := ⟨_, rfl⟩
  have hss : (sb b).size = L := by rw [sb_size, hL]
  obtain ⟨sv, hsv⟩ : ∃ sv, sb b = sv := ⟨_, rfl⟩
  rw [hL] at hb
  rw [hsv] at hss
  have bL0 : ¬ L = 0 := by omega
  have bL1 : decide ((4096 : Int) < (L : Int)) = false := by simp; omega
  have bL2 : ¬ 4096 < L := by omega
  unfold modV mcells
  rw [hsv]
  have HNN := Lib.hid hf
  clear h hf hL hsv
  have k0 := (Keep.refl (fun _ => False) w).alloc' (.cells #[x.x0, x.x1, .string sv, x.x2, x.x3, x.x4, x.x5, x.x6, x.x7] 34)
  have H0 := Lib.hid (And.intro (H.out.quiet k0) (And.intro k0 (heap_alloc_new w (.cells #[x.x0, x.x1, .string sv, x.x2, x.x3, x.x4, x.x5, x.x6, x.x7] 34))))
  clear k0
  go_enter Try.func8, Try.ntmps8
  go_upto_region 1 with (fail)
  obtain ⟨W1, hW1⟩ : ∃ W1, w.alloc (.cells #[x.x0, x.x1, .string sv, x.x2, x.x3, x.x4, x.x5, x.x6, x.x7] 34) = W1 := ⟨_, rfl⟩
  obtain ⟨mb, hmb⟩ : ∃ mb, w.heap.size = mb := ⟨_, rfl⟩
  have HMB := Lib.hid hmb
  rw [hW1, hmb] at H0
  rw [hW1, hmb]
  clear hW1 hmb
  have HC := Lib.hid (closed_any H0.out.1)
  have c2 : W1.cell? ⟨p, 2, none⟩ = some (.slice r.A 16 r.ac) := by have := H0.out.1.c2; rwa [HNN.out] at this
  have m2 : W1.cell? ⟨mb, 2, none⟩ = some (.string sv) := (blk_cell H0.out.2.2 2).trans rfl
  go_wp2_with fail
  ((with_reducible refine HC.out.mono ?_); rintro e w' ⟨rfl, rfl⟩)
  clear HC
  go_wp2_with fail
  go_ret2
  refine ⟨rfl, ?_⟩
  rw [HMB.out]
  have h1 : Since w.heap.size w W1 := Since.of H0.out.2.1
  rw [HMB.out] at h1
  exact h1
theorem st_add_full {n : Nat} {w0 w : World} {p : Nat} {s : MS} {C : List (Nat × Obj)} (h : ST n w0 p s C w) {b : Bytes} (x : MX) (hb : 0 < b.length ∧ b.length ≤ 4096) (hf : s.all.length = 16) :
    Calls Try.prog 8 #[.pointer (some ⟨p, 0, none⟩), modV b x] w fun e w' => e = .returned (.tuple #[.int .i64 0, .int .i64 2]) ∧ ST n w0 p s C w' := by
  obtain ⟨r, h1, h2, h3⟩ := id h
  exact (add_full h1 x hb hf).mono fun e w' ⟨g1, g3⟩ => ⟨g1, h.later g3⟩

/-! ### plain -/
/-- j modules of the same length, one behind the other. -/
def rm (b : Bytes) : Nat → MS
  | 0 => MS.new 3
  | j + 1 => (rm b j).added b (lns b.length * j)
theorem rm_len (b : Bytes) : ∀ j, (rm b j).all.length = j
  | 0 => rfl
  | j + 1 => by simp [rm, MS.added, rm_len b j]
theorem rm_next (b : Bytes) : ∀ j, (rm b j).next = j
  | 0 => rfl
  | j + 1 => by simp [rm, MS.added, rm_next b j]
theorem rm_inn (b : Bytes) : ∀ j, (rm b j).inn = [-1, -1, -1]
  | 0 => rfl
  | j + 1 => by
    have := rm_inn b j
    simp only [rm, MS.added]
    exact this
theorem rm_taken (b : Bytes) (hb : 0 < b.length) : ∀ j i, takenB (rm b j).all i = decide (i < lns b.length * j)
  | 0, i => by simp [rm, MS.new, takenB]
  | j + 1, i => by
    simp only [rm, MS.added]
    rw [taken_snoc, rm_taken b hb j i, Nat.mul_succ]
    have e : (⟨(rm b j).next, lns b.length * j, b, false, (rm b j).owing⟩ : ME).on i = (decide (lns b.length * j ≤ i) && decide (i < lns b.length * j + lns b.length)) := rfl
    rw [e, Bool.eq_iff_iff]
    simp only [Bool.or_eq_true, Bool.and_eq_true, decide_eq_true_eq]
    omega
theorem rm_place (b : Bytes) (hb : 0 < b.length) (j : Nat) : (rm b j).place b.length = if lns b.length * j + lns b.length ≤ 256 then some (lns b.length * j) else none :=
  seek_prefix _ _ _ hb (rm_taken b hb j)
theorem rm_at (b : Bytes) : ∀ (j i : Nat), i < j → (rm b j).all.getD i ME.dflt = ⟨i, lns b.length * i, b, false, [true, true, true]⟩
  | 0, i, h => by omega
  | j + 1, i, h => by
    simp only [rm, MS.added]
    by_cases hij : i = j
    · subst hij
      rw [List.getD_eq_getElem?_getD, List.getElem?_append_right (Nat.le_of_eq (rm_len b i)), rm_len]
      simp [MS.owing, rm_inn, rm_next, List.replicate]
    · rw [List.getD_eq_getElem?_getD, List.getElem?_append_left (by rw [rm_len]; omega), ← List.getD_eq_getElem?_getD]
      exact rm_at b j i (by omega)
/-- The first j of them are dropped. -/
def dr (s : MS) (j : Nat) : MS := { s with all := (s.all.take j).map (fun e => { e with dropped := true }) ++ s.all.drop j }
theorem dr_zero (s : MS) : dr s 0 = s := by simp [dr]
theorem dr_len (s : MS) (j : Nat) : (dr s j).all.length = s.all.length := by
  simp [dr]
  omega
theorem dr_at_lt (s : MS) {i j : Nat} (h : i < j) (hj : i < s.all.length) : (dr s j).all.getD i ME.dflt = { s.all.getD i ME.dflt with dropped := true } := by
  unfold dr
  simp only
  rw [getD_eq' _ _ _ (by simp; omega), getD_eq' _ _ _ hj, List.getElem_append_left (by simp; omega)]
  simp
theorem dr_at_ge (s : MS) {i j : Nat} (h : j ≤ i) (hj : i < s.all.length) : (dr s j).all.getD i ME.dflt = s.all.getD i ME.dflt := by
  unfold dr
  simp only
  rw [List.getD_eq_getElem?_getD, List.getD_eq_getElem?_getD, List.getElem?_append_right (by simp; omega), List.getElem?_drop]
  congr 2
  simp
  omega
theorem dr_find (b : Bytes) {j m : Nat} (h : j < m) : (dr (rm b m) j).find (j : Int) = some j := by
  refine find_some (by rw [dr_len, rm_len]; exact h) (fun i hi => ?_) ?_
  · rw [dr_at_lt _ hi (by rw [rm_len]; omega)]
    simp [hit]
  · rw [dr_at_ge _ (Nat.le_refl _) (by rw [rm_len]; exact h), rm_at b m j h]
    simp [hit]
theorem dr_step (b : Bytes) {j m : Nat} (h : j < m) : (dr (rm b m) j).dropped j ((dr (rm b m) j).all.getD j ME.dflt) = dr (rm b m) (j + 1) := by
  have hk : j < (rm b m).all.length := by rw [rm_len]; exact h
  rw [dr_at_ge _ (Nat.le_refl _) hk]
  have ho : (dr (rm b m) j).owing = ((rm b m).all.getD j ME.dflt).owed := by
    rw [rm_at b m j h]
    simp [MS.owing, dr, rm_inn, List.replicate]
  unfold MS.dropped
  rw [ho]
  unfold dr
  simp only
  congr 1
  have hl : (((rm b m).all.take j).map (fun e : ME => { e with dropped := true })).length = j := by simp; omega
  rw [List.set_append_right _ _ (by omega), hl, Nat.sub_self, List.drop_eq_getElem_cons hk, List.set_cons_zero, List.take_succ_eq_append_getElem hk, List.map_append, getD_eq' _ _ _ hk]
  simp
end Go.Proofs.Ytnhajhejkecihaa
