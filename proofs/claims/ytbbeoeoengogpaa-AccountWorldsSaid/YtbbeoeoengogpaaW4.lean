/- account.all of values that are plain; the reference's numbers. -/
import Derived.Test.YtbbeoeoengogpaaW3
import Derived.Laws.Rows
import Derived.Laws.OwnMore
import Derived.Deep.AppendLies
namespace Go.Proofs.Ytbbeoeoengogpaa
open Go.RowKit Go.Lib
set_option linter.unusedVariables false

structure Val where
  a : Int
  b : Int
  s : ByteArray
def Val.cells (v : Val) : List Value := [.int .i64 v.a, .int .i64 v.b, .string v.s]
def Val.dflt : Val := ⟨0, 0, ⟨#[]⟩⟩
def valc : List Val → List Value
  | [] => []
  | v :: l => v.cells ++ valc l
theorem valc_length : ∀ l : List Val, (valc l).length = l.length * 3
  | [] => rfl
  | v :: l => by rw [valc, List.length_append, valc_length l, List.length_cons]; simp [Val.cells]; omega
theorem valc_append : ∀ (l m : List Val), valc (l ++ m) = valc l ++ valc m
  | [], _ => rfl
  | v :: l, m => by rw [List.cons_append, valc, valc, valc_append l m, List.append_assoc]
theorem valc_one (v : Val) : valc [v] = v.cells := by rw [valc, valc, List.append_nil]
theorem valc_at : ∀ (l : List Val) (j i : Nat), j < l.length → i < 3 → (valc l)[j * 3 + i]? = some ((l.getD j Val.dflt).cells.getD i undef)
  | [], _, _, h, _ => by simp at h
  | v :: l, 0, i, _, hi => by
    rw [valc, Nat.zero_mul, Nat.zero_add, List.getElem?_append_left (by simp [Val.cells]; omega)]
    rw [List.getD_cons_zero, List.getD_eq_getElem?_getD, List.getElem?_eq_getElem (by simp [Val.cells]; omega)]
    rfl
  | v :: l, j + 1, i, hj, hi => by
    rw [valc, List.getElem?_append_right (by simp [Val.cells]; omega), show (j + 1) * 3 + i - v.cells.length = j * 3 + i by simp [Val.cells]; omega, valc_at l j i (by simpa using hj) hi]
    rfl
theorem valc_one_cell (l : List Val) : ∀ u ∈ valc l, u.oneCell' = true := by
  induction l with
  | nil => intro u h; cases h
  | cons v l ih =>
    intro u hu
    rw [valc, List.mem_append] at hu
    rcases hu with hu | hu
    · simp only [Val.cells, List.mem_cons, List.not_mem_nil, or_false] at hu
      rcases hu with rfl | rfl | rfl <;> rfl
    · exact ih u hu
def VRow (W : World) (A : Option Addr) (n c : Nat) (l : List Val) : Prop := ∃ base, W.ownsRow base 75 3 (.slice A n c) n (valc l)
theorem VRow.len {W : World} {A : Option Addr} {n c : Nat} {l : List Val} (h : VRow W A n c l) : l.length = n := by
  obtain ⟨b, h⟩ := h
  have := h.1
  rw [valc_length] at this
  omega
theorem VRow.since {W W' : World} {A : Option Addr} {n c : Nat} {l : List Val} (h : VRow W A n c l) (hk : Since W.heap.size W W') : VRow W' A n c l := let ⟨b, ho⟩ := h; ⟨b, hk.own ho (fun k e => by have := own_lt ho k e; omega)⟩
theorem VRow.at_ {W : World} {A : Option Addr} {n c : Nat} {l : List Val} (h : VRow W A n c l) (j : Nat) (hj : j < n) (v : Val) (hv : l.getD j Val.dflt = v) :
    ∃ g, A = some ⟨g, 0, none⟩ ∧ W.cell? ⟨g, j * 3, none⟩ = some (.int .i64 v.a) ∧ W.cell? ⟨g, j * 3 + 1, none⟩ = some (.int .i64 v.b) ∧ W.cell? ⟨g, j * 3 + 2, none⟩ = some (.string v.s) := by
  have hl := h.len
  obtain ⟨b, ho⟩ := h
  rcases ho.2 with ⟨_, h2⟩ | ⟨g, cap, cur, h1, h2, h3, h4, h5, h6, h7⟩
  · omega
  · injection h1 with h1 _ _
    subst h1 hv
    have get : ∀ r, r < 3 → W.cell? ⟨g, j * 3 + r, none⟩ = some ((l.getD j Val.dflt).cells.getD r undef) := fun r hr => by
      rw [blk_cell h3, ← valc_at l j r (by omega) hr, ← h7, List.getElem?_take_of_lt (by omega)]
      simp
    exact ⟨g, rfl, get 0 (by omega), get 1 (by omega), get 2 (by omega)⟩

def PL (v : Val) : Bool := VR v.a v.b v.s && (decide (1 ≤ v.a) && decide (v.a ≤ 4))
set_option maxHeartbeats 1000000 in
theorem plain_val (v : Val) (h : PlainS v.s) (w : World) : Calls Try.prog 40 #[.agg #[.int .i64 v.a, .int .i64 v.b, .string v.s]] w fun e w' => e = .returned (.bool (PL v)) ∧ Since w.heap.size w w' := by
  obtain ⟨a, b, s⟩ := v
  simp only at h
  have hk := (Keep.refl (fun _ => False) w).alloc' (.cells #[.int .i64 a, .int .i64 b, .string s] 75)
  have HK := Lib.hid (Since.of (n := w.heap.size) hk)
  have HV := Lib.hid (val_right a b h (w.alloc (.cells #[.int .i64 a, .int .i64 b, .string s] 75)))
  have hnew := heap_alloc_new w (.cells #[.int .i64 a, .int .i64 b, .string s] 75)
  have HN := Lib.hid hnew
  unfold PL
  simp only
  clear h hk hnew
  go_enter Try.func40, Try.ntmps40
  go_wp2_with fail
  ((with_reducible refine HV.out.mono ?_); rintro e w' ⟨rfl, hk1⟩)
  have hb1 := (hk1.block w.heap.size (by simp) (by simp)).trans HN.out
  have c0 := blk_cell hb1 0
  simp only [List.getElem?_toArray, List.getElem?_cons_zero] at c0
  have HK2 := Lib.hid (Keep.trans HK.out (Since.mono hk1 HK.out.size))
  clear hk1 hb1
  cases hvr : VR a b s with
  | false =>
    go_wp2_with fail
    go_ret
    exact ⟨by rw [hvr]; rfl, HK2.out⟩
  | true =>
    cases hd : decide (1 ≤ a) with
    | false =>
      go_wp2_with fail
      go_ret
      exact ⟨by rw [hvr, hd]; rfl, HK2.out⟩
    | true =>
      go_wp2_with fail
      go_ret
      exact ⟨by rw [hvr, hd]; rfl, HK2.out⟩
theorem nplain_val (v : Val) (h : PlainS v.s) (D : Nat) (w : World) (h3 : w.cell? ⟨D, 0, none⟩ = some (.func (.func 40) #[] #[])) :
    Calls Try.prog 50 #[.agg #[.int .i64 v.a, .int .i64 v.b, .string v.s], .pointer (some ⟨D, 0, none⟩)] w fun e w' => e = .returned (.bool (!PL v)) ∧ Since w.heap.size w w' := by
  have hk := (Keep.refl (fun _ => False) w).alloc' (.cells #[.int .i64 v.a, .int .i64 v.b, .string v.s] 75)
  have HK := Lib.hid (Since.of (n := w.heap.size) hk)
  have HP := Lib.hid (plain_val v h (w.alloc (.cells #[.int .i64 v.a, .int .i64 v.b, .string v.s] 75)))
  have h4 := cell_kept hk h3 id
  clear h hk h3
  go_enter Try.func50, Try.ntmps50
  go_wp2_with fail
  ((with_reducible refine HP.out.mono ?_); rintro e w' ⟨rfl, hk1⟩)
  have HK2 := Lib.hid (Keep.trans HK.out (Since.mono hk1 HK.out.size))
  clear hk1 h4
  go_wp2_with fail
  go_ret
  exact ⟨rfl, HK2.out⟩
def allP (l : List Val) : Bool := l.all PL
theorem allP_yes {l : List Val} (h : ∀ j, j < l.length → PL (l.getD j Val.dflt) = true) : allP l = true := by
  unfold allP
  rw [List.all_eq_true]
  intro x hx
  obtain ⟨j, hj, rfl⟩ := List.getElem_of_mem hx
  have := h j hj
  rwa [List.getD_eq_getElem?_getD, List.getElem?_eq_getElem hj] at this
theorem allP_no {l : List Val} {j : Nat} (hj : j < l.length) (h : PL (l.getD j Val.dflt) = false) : allP l = false := by
  unfold allP
  rw [List.all_eq_false]
  exact ⟨_, getD_mem hj, by rw [h]; decide⟩
set_option maxHeartbeats 1000000 in
theorem idx_plainv {w : World} {A : Option Addr} {n c : Nat} {l : List Val} (h : VRow w A n c l) (hp : ∀ v ∈ l, PlainS v.s) (hn : n ≤ 1000000) (D : Nat) (h3 : w.cell? ⟨D, 0, none⟩ = some (.func (.func 40) #[] #[])) :
    Calls Try.prog 56 #[.slice A n c, (.func (.func 50) #[] #[.pointer (some ⟨D, 0, none⟩)])] w fun e w' => ∃ r : Int, e = .returned (.int .i64 r) ∧ decide (0 ≤ r) = !allP l ∧ Since w.heap.size w w' := by
  have H := Lib.hid h
  have HP := Lib.hid hp
  have H3 := Lib.hid h3
  have HL := Lib.hid h.len
  have hdl := World.block_lt_of_cell? _ _ h3
  clear h hp h3
  go_enter Try.func56, Try.ntmps56
  go_wp2_with fail
  go_loopw [8] (fun i wr => ∃ j : Nat, j ≤ n ∧ i = .int .i64 (j : Int) ∧ Hid (∀ t, t < j → PL (l.getD t Val.dflt) = true) ∧ Hid (Since w.heap.size w wr)) (fun i _ => n + 1 - (intOf i).toNat)
  case atStart => exact ⟨0, Nat.zero_le _, rfl, Lib.hid (fun t ht => absurd ht (by omega)), Lib.hid (Keep.refl _ _)⟩
  case round =>
    obtain ⟨j, hj, rfl, HA, HS⟩ := hrel
    obtain ⟨wo, rfl⟩ : ∃ wo : World, wo = wr := ⟨_, rfl⟩
    by_cases hjn : j < n
    · have hb : decide (j < n) = true := by simpa using hjn
      obtain ⟨v, hv⟩ : ∃ v, l.getD j Val.dflt = v := ⟨_, rfl⟩
      obtain ⟨g, rfl, q0, q1, q2⟩ := (H.out.since HS.out).at_ j hjn v hv
      have HX := Lib.hid hv
      have hps : PlainS v.s := hv ▸ HP.out _ (getD_mem (by rw [HL.out]; exact hjn))
      have HN := Lib.hid (nplain_val v hps D wo (cell_kept HS.out H3.out (by simp only at hdl ⊢; omega)))
      clear hv hps
      cases hin : PL v with
      | true =>
        rw [hin] at HN
        have HT := Lib.hid (show ∀ t, t < j + 1 → PL (l.getD t Val.dflt) = true from fun t ht => by
          by_cases htj : t < j
          · exact HA.out t htj
          · obtain rfl : t = j := by omega
            rw [HX.out]
            exact hin)
        clear hin
        go_wp2_with fail
        ((with_reducible refine HN.out.mono ?_); rintro e w' ⟨rfl, hk⟩)
        have HK := Lib.hid (Keep.trans HS.out (Since.mono hk HS.out.size))
        clear hk
        go_wp2_with fail
        exact ⟨⟨j + 1, by omega, by go_num, HT, HK⟩, by simp [intOf]; omega⟩
      | false =>
        rw [hin] at HN
        have HT := Lib.hid (allP_no (by rw [HL.out]; exact hjn) (by rw [HX.out]; exact hin))
        clear hin
        go_wp2_with fail
        ((with_reducible refine HN.out.mono ?_); rintro e w' ⟨rfl, hk⟩)
        have HK := Lib.hid (Keep.trans HS.out (Since.mono hk HS.out.size))
        clear hk
        go_wp2_with fail
        go_ret
        exact ⟨_, rfl, by rw [HT.out]; simp, HK.out⟩
    · have hb : decide (j < n) = false := by simpa using hjn
      have HT := Lib.hid (allP_yes (l := l) (fun t ht => HA.out t (by rw [HL.out] at ht; omega)))
      go_wp2_with fail
      go_ret
      exact ⟨_, rfl, by rw [HT.out]; rfl, HS.out⟩
theorem contains_plainv {w : World} {A : Option Addr} {n c : Nat} {l : List Val} (h : VRow w A n c l) (hp : ∀ v ∈ l, PlainS v.s) (hn : n ≤ 1000000) (D : Nat) (h3 : w.cell? ⟨D, 0, none⟩ = some (.func (.func 40) #[] #[])) :
    Calls Try.prog 49 #[.slice A n c, (.func (.func 50) #[] #[.pointer (some ⟨D, 0, none⟩)])] w fun e w' => e = .returned (.bool (!allP l)) ∧ Since w.heap.size w w' := by
  have HI := Lib.hid (idx_plainv h hp hn D h3)
  clear h hp h3
  go_enter Try.func49, Try.ntmps49
  go_wp2_with fail
  ((with_reducible refine HI.out.mono ?_); rintro e w' ⟨r, rfl, hr, hk⟩)
  have HR := Lib.hid (And.intro hr hk)
  clear hr hk
  go_wp2_with fail
  go_ret
  exact ⟨by rw [← HR.out.1]; rfl, HR.out.2⟩
theorem all_plain {w : World} {A : Option Addr} {n c : Nat} {l : List Val} (h : VRow w A n c l) (hp : ∀ v ∈ l, PlainS v.s) (hn : n ≤ 1000000) (most : Int) :
    Calls Try.prog 39 #[.slice A n c, .int .i64 most, (.func (.func 40) #[] #[])] w fun e w' => e = .returned (.bool (decide ((n : Int) ≤ most) && allP l)) ∧ Since w.heap.size w w' := by
  have hk := Since.of (n := w.heap.size) ((Keep.refl (fun _ => False) w).alloc' (.cells #[.func (.func 40) #[] #[]] 86))
  have HK := Lib.hid hk
  have HC := Lib.hid (contains_plainv (h.since hk) hp hn w.heap.size (blk_cell (heap_alloc_new w _) 0))
  clear h hp hk
  cases hd : decide ((n : Int) ≤ most) with
  | true =>
    go_enter Try.func39, Try.ntmps39
    go_wp2_with fail
    ((with_reducible refine HC.out.mono ?_); rintro e w' ⟨rfl, hk2⟩)
    have HK2 := Lib.hid (Keep.trans HK.out (Since.mono hk2 HK.out.size))
    clear hk2
    go_wp2_with fail
    go_ret
    exact ⟨by simp, HK2.out⟩
  | false =>
    go_enter Try.func39, Try.ntmps39
    go_wp2_with fail
    go_ret
    exact ⟨rfl, HK.out⟩
end Go.Proofs.Ytbbeoeoengogpaa
