/- CacheOrder: shapes are in the order in which they were learned; learning one again, or finding it, does not change the order; forgetting one leaves that of the others: for every order and every shape the law returns true. -/
import Derived.Test.YtdfmmgepapiamaaDoorS12
import Derived.Test.YtdfmmgepapiamaaDoorKLT
import Derived.Test.YtdfmmgepapiamaaDoorKU
import Derived.Test.YtdfmmgepapiamaaDoorKW
import Derived.Deep.RegionHeld3
namespace Go.Proofs.YtdfmmgepapiamaaDoor
open Go.ChangeShapes Go.WideShapes Go.ChangeAt Go.RowKit
set_option linter.unusedVariables false

/-! ### Plain laws -/
theorem shapes_getD (l : List (Int × Int)) (j : Nat) (h : j < l.length) : (l.map (·.1)).getD j 0 = (prAt l j).1 := by
  simp [prAt, List.getD_eq_getElem?_getD, List.getElem?_eq_getElem h]
theorem first_shapes {l : List (Int × Int)} {x : Int} {k : Nat} (h : First l x k) : FirstI (l.map (·.1)) x k :=
  ⟨by rw [List.length_map]; exact h.1, by rw [shapes_getD _ _ h.1]; exact h.2.1, fun j hj => by rw [shapes_getD _ _ (by have := h.1; omega)]; exact h.2.2 j hj⟩
theorem absent_shapes {l : List (Int × Int)} {x : Int} (h : Absent l x) : AbsentI (l.map (·.1)) x :=
  fun j hj => by rw [List.length_map] at hj; rw [shapes_getD _ _ hj]; exact h j hj
theorem contains_first {xs : List Int} {x : Int} {k : Nat} (h : FirstI xs x k) : xs.contains x = true := by
  rw [List.contains_iff_mem, ← h.2.1]
  exact getD_mem h.1
theorem contains_absent {xs : List Int} {x : Int} (h : AbsentI xs x) : xs.contains x = false := by
  rw [Bool.eq_false_iff]
  intro hc
  rw [List.contains_iff_mem] at hc
  obtain ⟨j, hj, e⟩ := List.getElem_of_mem hc
  have := h j hj
  rw [List.getD_eq_getElem?_getD, List.getElem?_eq_getElem hj] at this
  exact this e
theorem only_first {xs : List Int} {x : Int} {k : Nat} (hn : xs.Nodup) (h : FirstI xs x k) : ∀ j, k < j → j < xs.length → xs.getD j 0 ≠ x := by
  intro j hkj hj e
  have h1 := h.1
  have e2 := h.2.1
  rw [List.getD_eq_getElem?_getD, List.getElem?_eq_getElem hj] at e
  rw [List.getD_eq_getElem?_getD, List.getElem?_eq_getElem h1] at e2
  have := (List.nodup_iff_pairwise_ne.1 hn)
  rw [List.pairwise_iff_getElem] at this
  exact this k j h1 hj hkj (e2.trans e.symm)
theorem nodup_le : ∀ (m : Nat) (l : List Int), l.Nodup → (∀ x ∈ l, 0 ≤ x ∧ x < (m : Int)) → l.length ≤ m
  | 0, l, _, h => by
    cases l with
    | nil => simp
    | cons x l => have := h x (by simp); omega
  | m + 1, l, hn, h => by
    have h1 := nodup_le m (l.erase (m : Int)) (hn.erase _) (fun x hx => by
      have h2 := h x (List.mem_of_mem_erase hx)
      have h3 : x ≠ (m : Int) := by
        rintro rfl
        exact (List.Nodup.not_mem_erase hn) hx
      omega)
    have h2 := List.length_erase (a := (m : Int)) (l := l)
    split at h2 <;> omega
theorem learn_low {s : CS} (ok : s.Ok) (hf : s.full = false) (x y : Int) (hx : 0 ≤ x ∧ x < 4) (hy : 0 ≤ y) (hl : ∀ z ∈ s.shapes, 0 ≤ z ∧ z < 4) :
    (s.learn x y).1 = 0 ∧ (s.learn x y).2.full = false ∧ (s.learn x y).2.shapes = if s.shapes.contains x = true then s.shapes else s.shapes ++ [x] := by
  rcases idx_cases s.l x with ⟨k, e, hk⟩ | ⟨e, ha⟩
  · have hL : s.learn x y = (0, { s with l := s.l.set k (x, y) }) := by
      unfold CS.learn
      rw [if_neg (by omega), if_neg (by rw [hf]; simp), e]
    have hc : s.shapes.contains x = true := contains_first (first_shapes hk)
    rw [hL, hc]
    refine ⟨rfl, hf, ?_⟩
    rw [if_pos rfl]
    exact set_shapes hk
  · have hc : s.shapes.contains x = false := contains_absent (absent_shapes ha)
    have hm : x ∉ s.shapes := by
      intro h
      rw [← List.contains_iff_mem, hc] at h
      cases h
    have h4 : ¬ s.l.length = 4 := by
      intro h4
      have h5 := nodup_le 4 (x :: s.shapes) (List.nodup_cons.2 (And.intro hm ok.nodup)) (fun z hz => by
        rcases List.mem_cons.1 hz with rfl | hz
        · exact hx
        · exact hl z hz)
      rw [List.length_cons, CS.shapes, List.length_map] at h5
      omega
    have hL : s.learn x y = (0, { s with l := s.l ++ [(x, y)] }) := by
      unfold CS.learn
      rw [if_neg (by omega), if_neg (by rw [hf]; simp), e]
      simp only [h4, if_false]
    rw [hL, hc]
    refine ⟨rfl, hf, ?_⟩
    rw [if_neg (by decide)]
    simp [CS.shapes]
theorem forget_first {s : CS} {x : Int} {k : Nat} (h : First s.l x k) : s.forget x = (true, { s with l := s.l.eraseIdx k }) := by
  unfold CS.forget; rw [h.idx]
theorem forget_absent {s : CS} {x : Int} (h : Absent s.l x) : s.forget x = (false, s) := by
  unfold CS.forget; rw [h.idx]
theorem erase_shapes : ∀ (l : List (Int × Int)) (k : Nat), (l.eraseIdx k).map (·.1) = (l.map (·.1)).eraseIdx k
  | [], k => by simp
  | p :: l, 0 => by simp
  | p :: l, k + 1 => by simp [erase_shapes l k]
theorem erase_absent {l : List (Int × Int)} {x : Int} {k : Nat} (hn : (l.map (·.1)).Nodup) (h : First l x k) : Absent (l.eraseIdx k) x := by
  rw [← erase_filter hn h]
  intro j hj e
  have hm : prAt (l.filter (fun p => p.1 != x)) j ∈ l.filter (fun p => p.1 != x) := by unfold prAt; exact getD_mem hj
  have := (List.mem_filter.1 hm).2
  rw [e] at this
  simp at this

theorem forget_contains (s : CS) (x : Int) : (s.forget x).1 = s.shapes.contains x := by
  rcases idx_cases s.l x with ⟨k, e, hk⟩ | ⟨e, ha⟩
  · rw [forget_first hk]; exact (contains_first (first_shapes hk)).symm
  · rw [forget_absent ha]; exact (contains_absent (absent_shapes ha)).symm
theorem forget_low {s : CS} (ok : s.Ok) (hf : s.full = false) (x : Int) (hl : ∀ z ∈ s.shapes, 0 ≤ z ∧ z < 4) :
    (s.forget x).2.full = false ∧ (∀ z ∈ (s.forget x).2.shapes, 0 ≤ z ∧ z < 4) ∧ Absent (s.forget x).2.l x := by
  rcases idx_cases s.l x with ⟨k, e, hk⟩ | ⟨e, ha⟩
  · rw [forget_first hk]
    refine ⟨hf, fun z hz => hl z ?_, erase_absent ok.nodup hk⟩
    unfold CS.shapes at hz ⊢
    simp only at hz
    rw [erase_shapes] at hz
    exact List.mem_of_mem_eraseIdx hz
  · rw [forget_absent ha]
    exact ⟨hf, hl, ha⟩
theorem del_any {w : World} {base c : Nat} {A : Option Addr} {s : CS} (ok : s.Ok) (ho : w.ownsRow base 3 1 (.slice A s.shapes.length c) s.shapes.length (ints s.shapes)) (g : Int) (B : Nat) (hB : w.cell? ⟨B, 0, none⟩ = some (.int .i64 g)) (hBG : ∀ b, (Value.slice A s.shapes.length c).ownBlock = some b → b ≠ B) :
    Calls Tryd.prog 24 #[.slice A s.shapes.length c, (.func (.func 25) #[] #[.pointer (some ⟨B, 0, none⟩)])] w fun e w' => e = .returned (.slice A (s.forget g).2.shapes.length c) ∧ w'.ownsRow base 3 1 (.slice A (s.forget g).2.shapes.length c) (s.forget g).2.shapes.length (ints (s.forget g).2.shapes) ∧ Keep (fun i => (Value.slice A s.shapes.length c).ownBlock = some i) w w' := by
  rcases idx_cases s.l g with ⟨k, e, hk⟩ | ⟨e, ha⟩
  · rw [forget_first hk]
    have hs := first_shapes hk
    have he : ({ s with l := s.l.eraseIdx k } : CS).shapes = s.shapes.eraseIdx k := erase_shapes s.l k
    rw [he]
    have hs1 : k < s.shapes.length := hs.1
    obtain ⟨m, hm⟩ : ∃ m, s.shapes.length = m + 1 := ⟨s.shapes.length - 1, by omega⟩
    have hm' : (s.shapes.eraseIdx k).length = m := by rw [List.length_eraseIdx_of_lt hs1]; omega
    rw [hm'] 
    rw [hm] at ho hBG ⊢
    rcases ho.2 with ⟨h1, h2⟩ | ⟨g', cap, cur, h1, _⟩
    · cases h2
    · injection h1 with h1 _ h3
      subst h1 h3
      refine (del_some ho g B hB (fun e => hBG g' rfl e.symm) hs (only_first ok.nodup hs)).mono ?_
      rintro e w' ⟨he1, he2, he3⟩
      exact ⟨he1, he2, Keep.mono he3 (fun i hi => congrArg some hi.symm)⟩
  · rw [forget_absent ha]
    obtain ⟨A0, c0, e0, hcs⟩ := owns_cells ho
    injection e0 with e1 _ e3
    subst e1 e3
    refine (del_none hcs g B hB (absent_shapes ha)).mono ?_
    rintro e w' ⟨he, rfl⟩
    exact ⟨he, ho, Keep.refl _ _⟩

theorem equal_refl {A1 A2 : Option Addr} {n1 n2 c1 c2 : Nat} {xs : List Int} {w : World} (h1 : IntsAt w A1 n1 xs) (h2 : IntsAt w A2 n2 xs) :
    Calls Tryd.prog 22 #[.slice A1 n1 c1, .slice A2 n2 c2] w fun e w' => e = .returned (.bool true) ∧ Since w.heap.size w w' := by
  refine (equal_any A1 A2 n1 n2 c1 c2 xs xs w h1 h2).mono ?_
  rintro e w' ⟨rfl, k, rfl⟩
  exact ⟨by simp, since_draw _ _ _⟩

structure OI (w : World) (p : Nat) (s : CS) (k : Nat) (v : Value) (wr : World) : Prop where
  site : IsSite wr p s
  full : s.full = false
  low : ∀ z ∈ s.shapes, 0 ≤ z ∧ z < 4
  few : s.few (k : Int)
  own : wr.ownsRow w.heap.size 3 1 v s.shapes.length (ints s.shapes)
  since : Since w.heap.size w wr
theorem OI.ne {w wr : World} {p k : Nat} {s : CS} {v : Value} (h : OI w p s k v wr) : ∀ b, v.ownBlock = some b → b ≠ p := by
  obtain ⟨e, _, _, hb, _⟩ := h.site
  exact fun b hb' => blk_own_ne hb h.own hb' (by decide)
/-- Behind the loop: the site holds `s`, the row holds `xs`, the box holds `g`. -/
structure OW (w : World) (p B : Nat) (g : Int) (s : CS) (xs : List Int) (A : Option Addr) (c : Nat) (W : World) : Prop where
  site : IsSite W p s
  own : W.ownsRow w.heap.size 3 1 (.slice A xs.length c) xs.length (ints xs)
  box : W.cell? ⟨B, 0, none⟩ = some (.int .i64 g)
  ne : ∀ b, (Value.slice A xs.length c).ownBlock = some b → b ≠ p ∧ b ≠ B
  far : B ≠ p ∧ B < W.heap.size
  base : w.heap.size ≤ p
  since : Since w.heap.size w W
theorem OW.quiet {w p B g s xs A c} {W W' : World} (h : OW w p B g s xs A c W) (hk : Since W.heap.size W W') : OW w p B g s xs A c W' :=
  ⟨h.site.since hk h.site.lt, hk.own h.own (fun b hb => by have := own_lt h.own b hb; omega), cell_kept hk h.box (by have := h.far.2; simp only; omega), h.ne, ⟨h.far.1, Nat.lt_of_lt_of_le h.far.2 hk.size⟩, h.base, Keep.trans h.since (Since.mono hk h.since.size)⟩
theorem OW.left {w p B g s s' xs A c} {W W' : World} (h : OW w p B g s xs A c W) (hs : IsSite W' p s') (hk : Keep (fun k => k = p) W W') : OW w p B g s' xs A c W' :=
  ⟨hs, hk.own h.own (fun b hb => (h.ne b hb).1), cell_kept hk h.box h.far.1, h.ne, ⟨h.far.1, Nat.lt_of_lt_of_le h.far.2 hk.size⟩, h.base, Keep.trans h.since (since_at hk h.base)⟩
theorem OW.right {w p B g s xs ys A c} {W W' : World} (h : OW w p B g s xs A c W) (ho : W'.ownsRow w.heap.size 3 1 (.slice A ys.length c) ys.length (ints ys)) (hk : Keep (fun i => (Value.slice A xs.length c).ownBlock = some i) W W') : OW w p B g s ys A c W' := by
  have hb : (Value.slice A ys.length c).ownBlock = (Value.slice A xs.length c).ownBlock := by cases A <;> rfl
  exact ⟨h.site.keep hk (fun e => (h.ne _ e).1 rfl), ho, cell_kept hk h.box (fun e => (h.ne _ e).2 rfl), fun b hb' => h.ne b (hb ▸ hb'), ⟨h.far.1, Nat.lt_of_lt_of_le h.far.2 hk.size⟩, h.base, Keep.trans h.since (Keep.mono hk (fun i hi => own_low h.own hi))⟩
theorem OW.low' {w p B g s xs A c} {W : World} (h : OW w p B g s xs A c W) : ∀ b, (Value.slice A xs.length c).ownBlock = some b → b < W.heap.size := fun b hb => own_lt h.own b hb
theorem app_keep {w w' : World} {r : Option Nat} {o : Obj} (h : (w.alloc o).grownBy w' r) : Keep (fun i => r = some i) w w' := ((Keep.refl _ w).alloc _).grown h (fun k e => .inl e)
theorem own_keep {w w' : World} {r : Option Nat} (h : w.grownBy w' r) : Keep (fun i => r = some i) w w' := (Keep.refl _ w).grown h (fun k e => .inl e)
theorem app_both {wC wD : World} {n m base c cC cD : Nat} {A AC AD : Option Addr} {xs ys : List Int} {g : Int} (h1 : wC.ownsRow m 3 1 (.slice AC n cC) n (ints ys)) (h2 : wD.ownsRow base 3 1 (.slice AD (xs.length + 1) cD) (xs.length + 1) (ints xs ++ ints [g]))
    (hk : Keep (fun i => (Value.slice A xs.length c).ownBlock = some i) wC wD) (he : ys = xs ++ [g]) (hl : ∀ b, (Value.slice A xs.length c).ownBlock = some b → b < m) :
    Hid (IntsAt wD AC n ys) ∧ Hid (IntsAt wD AD (xs.length + 1) ys) := by
  obtain ⟨A0, c0, e0, hc1⟩ := owns_cells (hk.own h1 (fun b hb hb' => by have := own_low h1 hb; have := hl b hb'; omega))
  injection e0 with e1 _ e3
  subst e1 e3
  rw [← ints_append, ← he] at h2
  obtain ⟨A0, c0, e0, hc2⟩ := owns_cells h2
  injection e0 with e1 _ e3
  subst e1 e3
  exact ⟨Lib.hid hc1, Lib.hid hc2⟩
set_option maxHeartbeats 8000000 in
set_option maxRecDepth 100000 in
theorem order_walk (A : Option Addr) (n c : Nat) (l : List Int) (g : Int) (w : World) (hA : CellsAt w A n (l.map (Value.int .u8))) (hl : ∀ x ∈ l, 0 ≤ x ∧ x ≤ 255) (hz : A = none → n = 0 ∧ c = 0) (hr : n ≤ 140737488351232 ∧ n ≤ c) (hg : 0 ≤ g ∧ g ≤ 255) (hT : TB w) :
    Calls Tryd.prog 9 #[.slice A n c, .int .u8 g] w fun e w' => e = .returned (.bool true) ∧ Below w.heap.size w w' := by
  have hnl := hr.1
  have HA := Lib.hid hA
  have HL := Lib.hid hl
  have T := Lib.hid hT
  have h0 := hT.pos
  obtain ⟨m, hm⟩ : ∃ m, min n 20 = m := ⟨_, rfl⟩
  have hmin : ∀ W, (Builtin.min_ #[3, 3] 3 #[.int .i64 (n : Int), .int .i64 20]).run Tryd.prog W = .ok (.int .i64 (m : Int)) W := by
    intro W
    rw [run_min_int2]
    congr 2
    split <;> omega
  have hmn : m ≤ n := by omega
  have hm20 : m ≤ 20 := by omega
  have hcut : ∀ W : World, (Instr.sliceAt 40 (.slice A n c) none (some (.int .i64 (m : Int))) none).run Tryd.prog W = .ok (.slice A m c) W := by
    intro W
    have h1 : (0 : Int) ≤ m := by omega
    have h2 : (m : Int) ≤ c := by omega
    go_simp
  have hgq : g % 4 = (g % 4).toNat := by omega
  obtain ⟨gq, hgq2⟩ : ∃ gq : Int, g % 4 = gq := ⟨_, rfl⟩
  have hgl : 0 ≤ gq ∧ gq < 4 := by omega
  clear hT hA hl hm hz hgq
  go_enter Tryd.func9, Tryd.ntmps9
  go_wp2_with fail
  ((with_reducible refine (sanity_any w T.out).mono ?_); rintro e w1 ⟨rfl, hk1⟩)
  have S1 := Lib.hid hk1; clear hk1
  go_wp2_with fail
  ((with_reducible refine (new_site w1).mono ?_); rintro e w2 ⟨rfl, hs2, hk2⟩)
  have Z := S1.out.size
  obtain ⟨p, hp⟩ : ∃ p, w1.heap.size = p := ⟨_, rfl⟩
  rw [hp] at hs2 Z ⊢
  have HI0 := Lib.hid (show OI w p CS.new 0 (.slice none 0 0) w2 from ⟨hs2, rfl, by simp [CS.new, CS.shapes], ⟨by decide, by decide⟩, World.ownsRow_nil _ _ _ _, Keep.trans S1.out (Since.mono (hp ▸ hk2) Z)⟩)
  clear hp hs2 hk2 S1
  go_wp2_with fail
  clear hmin hcut
  go_loopw [7, 21] (fun v i wr => ∃ k : Nat, k ≤ m ∧ i = .int .i64 (k : Int) ∧ ∃ s : CS, Hid (OI w p s k v wr)) (fun _ i _ => m + 1 - (intOf i).toNat)
  case atStart => exact ⟨0, Nat.zero_le _, rfl, _, HI0⟩
  case round =>
    obtain ⟨k, hk, rfl, s, HI⟩ := hrel
    obtain ⟨wo, rfl⟩ : ∃ wo : World, wo = wr := ⟨_, rfl⟩
    by_cases hlt : k < m
    · have hb : decide (k < m) = true := by simpa using hlt
      obtain ⟨bf, of, rfl, xf0⟩ := HA.out.at_ k (by omega)
      have hbf := World.block_lt_of_cell? _ _ xf0
      have hlen : l.length = n := by have := HA.out.1; simpa using this
      have hxe : (l.map (Value.int .u8)).getD k undef = .int .u8 (l.getD k 0) := by
        simp [List.getD_eq_getElem?_getD, List.getElem?_eq_getElem (show k < l.length by omega)]
      rw [hxe] at xf0
      have hy := HL.out _ (getD_mem (i := k) (x := (0 : Int)) (by omega))
      obtain ⟨y, hye⟩ : ∃ y, l.getD k 0 = y := ⟨_, rfl⟩
      rw [hye] at xf0 hy
      have xf : wo.cell? ⟨bf, of + k, none⟩ = some (.int .u8 y) := cell_kept HI.out.since xf0 (by simp only at hbf ⊢; omega)
      obtain ⟨x, hx⟩ : ∃ x : Int, y % 4 = x := ⟨_, rfl⟩
      have hxl : 0 ≤ x ∧ x < 4 := by omega
      have h5 := learn_any HI.out.site x (x + 1) (by omega) (by omega)
      obtain ⟨e1, e2, e3⟩ := learn_low HI.out.site.ok HI.out.full x (x + 1) hxl (by omega) HI.out.low
      have hfw := learn_few HI.out.few x (x + 1)
      obtain ⟨s5, hs5⟩ : ∃ s5, s.learn x (x + 1) = (0, s5) := ⟨(s.learn x (x + 1)).2, Prod.ext e1 rfl⟩
      rw [hs5] at h5 e2 e3 hfw
      have H5 := Lib.hid h5
      have HE := Lib.hid (And.intro e2 (And.intro e3 hfw))
      obtain ⟨Av, nv, cv, rfl⟩ : ∃ Av nv cv, u7 = .slice Av nv cv := by
        obtain ⟨a, b, h⟩ := own_slice HI.out.own
        exact ⟨a, _, b, h⟩
      have hnv : nv = s.shapes.length := by
        obtain ⟨a, b, h⟩ := own_slice HI.out.own
        injection h
      subst hnv
      have hkm := hlt
      clear hlt hlen hxe hye hbf xf0 h5 e1 e2 e3 hfw hs5
      go_wp2_with fail
      ((with_reducible refine H5.out.mono ?_); rintro e w5 ⟨rfl, hs5, hk5⟩)
      have HO5 := Lib.hid (And.intro (hk5.own HI.out.own HI.out.ne) (And.intro hs5 hk5))
      have h6 := find_any hs5 x (HE.out.2.2.mono (by omega))
      have hfw := find_few HE.out.2.2 x
      obtain ⟨hfl, hff⟩ := find_l s5 x
      obtain ⟨⟨fv, fb⟩, s6, hfe⟩ : ∃ a s6, s5.find x = (a, s6) := ⟨_, _, rfl⟩
      rw [hfe] at h6 hfw hfl hff
      simp only at h6 hfl hff
      have hsh : s6.shapes = s5.shapes := by unfold CS.shapes; rw [hfl]
      rw [← hsh, ← hff] at HE
      have H6 := Lib.hid h6
      have HF := Lib.hid hfw
      clear h6 hfw hfl hff hfe hsh hs5 hk5
      go_wp2_with fail
      ((with_reducible refine H6.out.mono ?_); rintro e w6 ⟨rfl, hs6, hk6⟩)
      have hown6 := hk6.own HO5.out.1 HI.out.ne
      obtain ⟨A0, c0, e0, hcs⟩ := owns_cells hown6
      injection e0 with e1 _ e3
      subst e1 e3
      have H7 := Lib.hid (contains_any hcs cv x)
      have HK6 := Lib.hid (Keep.trans HO5.out.2.2 hk6)
      have HO6 := Lib.hid (And.intro hown6 hs6)
      clear hcs hown6 hs6 hk6 H6 HO5 H5
      go_wp2_with fail
      ((with_reducible refine H7.out.mono ?_); rintro e w7 ⟨rfl, rfl⟩)
      have hzp : w.heap.size ≤ p := Z
      cases hcx : s.shapes.contains x with
      | true =>
        have hs65 := HE.out.2.1
        rw [hcx, if_pos rfl] at hs65
        have HN := Lib.hid (show OI w p s6 (k + 1) (.slice Av s.shapes.length cv) w6 from ⟨HO6.out.2, HE.out.1, by rw [hs65]; exact HI.out.low, HF.out, by rw [hs65]; exact HO6.out.1, Keep.trans HI.out.since (since_at HK6.out hzp)⟩)
        clear hs65 H7
        go_wp2_with fail
        exact ⟨⟨k + 1, by omega, by go_num, s6, HN⟩, by simp [intOf]; omega⟩
      | false =>
        have hs65 := HE.out.2.1
        rw [hcx, if_neg (by decide)] at hs65
        have hln : s.shapes.length ≤ 4 := by have := HI.out.site.ok.len; unfold CS.shapes; rw [List.length_map]; exact this
        have hwz : w.heap.size ≤ w6.heap.size := Nat.le_trans HI.out.since.size HK6.out.size
        clear H7
        go_wp2_with (at_builtin; refine wpList_append_src 37 3 _ 8 w.heap.size Tryd.ints _ _ rfl rfl _ s.shapes.length (ints s.shapes) rfl (by exact HO6.out.1.alloc _) _ 1 1 (ints [x]) rfl ?_ ?_ (ints_one _) ?_ (by decide) ?_ ?_)
        · intro h; cases h
        · exact cells_new _ _ _
        · omega
        · simp; omega
        · intro v' w' hown hg hnil hblk
          rw [← ints_append, ← hs65, show s.shapes.length + 1 = s6.shapes.length by rw [hs65]; simp] at hown
          have hkk : Keep (fun i => (Value.slice Av s.shapes.length cv).ownBlock = some i) w6 w' := ((Keep.refl _ w6).alloc _).grown hg (fun k e => .inl e)
          have HN := Lib.hid (show OI w p s6 (k + 1) v' w' from ⟨HO6.out.2.keep hkk (fun e => HI.out.ne _ e rfl), HE.out.1, by
            rw [hs65]; intro z hz; rcases List.mem_append.1 hz with hz | hz
            · exact HI.out.low z hz
            · cases List.mem_singleton.1 hz; exact hxl, HF.out, hown, Keep.trans HI.out.since (Keep.trans (since_at HK6.out hzp) (Keep.mono hkk (fun i hi => own_low HI.out.own hi)))⟩)
          clear hown hg hnil hblk hkk hs65
          go_wp2_with fail
          exact ⟨⟨k + 1, by omega, by go_num, s6, HN⟩, by simp [intOf]; omega⟩
    · obtain rfl : k = m := by omega
      have hb : decide (k < k) = false := by simp
      obtain ⟨Av, nv, cv, rfl⟩ : ∃ Av nv cv, u7 = .slice Av nv cv := by
        obtain ⟨a, b, h⟩ := own_slice HI.out.own
        exact ⟨a, _, b, h⟩
      have hnv : nv = s.shapes.length := by
        obtain ⟨a, b, h⟩ := own_slice HI.out.own
        injection h
      subst hnv
      clear hb hlt
      go_wp2_with fail
      ((with_reducible refine (shapes_any HI.out.site).mono ?_); rintro e w3 ⟨v1, rfl, ho1, hk3⟩)
      obtain ⟨A1, c1, rfl, hc1⟩ := owns_cells ho1
      have ho2 := hk3.own HI.out.own (fun b hb => by have := own_lt HI.out.own b hb; omega)
      obtain ⟨A0, c0, e0, hc2⟩ := owns_cells ho2
      injection e0 with e1 _ e3
      subst e1 e3
      have HQ := Lib.hid (equal_refl (c1 := c1) (c2 := cv) hc1 hc2)
      have HK3 := Lib.hid hk3
      clear ho1 ho2 hc1 hc2 hk3
      go_wp2_with fail
      ((with_reducible refine HQ.out.mono ?_); rintro e w4 ⟨rfl, hw4⟩)
      have HK4 := Lib.hid (Keep.trans HK3.out (Since.mono hw4 HK3.out.size))
      clear hw4 HQ HK3
      go_wp2_with fail
      have hpl := HI.out.site.lt
      have hsz := HK4.out.size
      have hk5 : Keep (fun _ => False) w4 (w4.alloc (.cells #[.int .i64 gq] 3)) := (Keep.refl (fun _ => False) w4).alloc' _
      have W5 := Lib.hid (show OW w p w4.heap.size gq s s.shapes Av cv (w4.alloc (.cells #[.int .i64 gq] 3)) from
        ⟨(HI.out.site.since HK4.out hpl).keep hk5 id, hk5.own (HK4.out.own HI.out.own (fun b hb => by have := own_lt HI.out.own b hb; omega)) (fun _ _ => id), blk_cell (heap_alloc_new w4 _) 0,
          fun b hb => ⟨HI.out.ne b hb, by have := own_lt HI.out.own b hb; omega⟩, ⟨by omega, by simp⟩, Z, Keep.trans HI.out.since (Keep.trans (Since.mono HK4.out HI.out.since.size) (Since.of hk5))⟩)
      obtain ⟨w5, hw5⟩ : ∃ w5, w4.alloc (.cells #[.int .i64 gq] 3) = w5 := ⟨_, rfl⟩
      obtain ⟨B, hB⟩ : ∃ B, w4.heap.size = B := ⟨_, rfl⟩
      rw [hw5, hB] at W5
      rw [hw5, hB]
      clear hw5 hB hk5 hpl hsz HK4
      obtain ⟨A0, c0, e0, hc5⟩ := owns_cells W5.out.own
      injection e0 with e1 _ e3
      subst e1 e3
      have HC := Lib.hid (contains_any hc5 cv gq)
      have HF := Lib.hid (forget_any W5.out.site gq)
      have hfl := forget_low HI.out.site.ok HI.out.full gq HI.out.low
      have hft := forget_contains s gq
      have hfn := forget_absent hfl.2.2
      have hLN := learn_low (forget_ok HI.out.site.ok gq) hfl.1 gq 9 hgl (by omega) hfl.2.1
      have hcn : (s.forget gq).2.shapes.contains gq = false := contains_absent (absent_shapes hfl.2.2)
      have hbx := W5.out.box
      have HD := fun (W : World) (h : OW w p B gq (s.forget gq).2 s.shapes Av cv W) => Lib.hid (del_any HI.out.site.ok h.own gq B h.box (fun b hb => (h.ne b hb).2))
      obtain ⟨tf, s2, hs2⟩ : ∃ tf s2, s.forget gq = (tf, s2) := ⟨_, _, rfl⟩
      rw [hs2] at HF hfl hft hfn hLN hcn HD
      simp only at hfl hft hfn hLN hcn HD
      rw [hft] at HF
      rw [hcn, if_neg (by decide)] at hLN
      obtain ⟨s3, hs3⟩ : ∃ s3, s2.learn gq 9 = (0, s3) := ⟨(s2.learn gq 9).2, Prod.ext hLN.1 rfl⟩
      have hs3l : s3.shapes = s2.shapes ++ [gq] := by have := hLN.2.2; rw [hs3] at this; exact this
      have HFN := Lib.hid (And.intro hfn (And.intro hs3 hs3l))
      obtain ⟨tb, htb⟩ : ∃ tb, s.shapes.contains gq = tb := ⟨_, rfl⟩
      rw [htb] at HF HC
      clear hc5 hfl hft hfn hLN hcn hs2 hs3 htb hs3l
      go_wp2_with fail
      ((with_reducible refine HC.out.mono ?_); rintro e w6 ⟨rfl, rfl⟩)
      go_wp2_with fail
      ((with_reducible refine HF.out.mono ?_); rintro e w6 ⟨rfl, hs6, hk6⟩)
      have hbb : (tb == tb) = true := by simp
      have hbn : (tb != tb) = false := by simp
      have W6 := Lib.hid (W5.out.left hs6 hk6)
      have HD6 := HD _ W6.out
      clear hs6 hk6 hbx HD HF HC
      go_wp2_with fail
      ((with_reducible refine HD6.out.mono ?_); rintro e w7 ⟨rfl, ho7, hk7⟩)
      have W7 := Lib.hid (W6.out.right ho7 hk7)
      clear ho7 hk7 HD6
      go_wp2_with fail
      ((with_reducible refine (shapes_any W7.out.site).mono ?_); rintro e w8 ⟨v8, rfl, ho8, hk8⟩)
      obtain ⟨A8, c8, rfl, hc8⟩ := owns_cells ho8
      have W8 := Lib.hid (W7.out.quiet hk8)
      obtain ⟨A0, c0, e0, hc9⟩ := owns_cells W8.out.own
      injection e0 with e1 _ e3
      subst e1 e3
      have HQ := Lib.hid (equal_refl (c1 := c8) (c2 := cv) hc8 hc9)
      clear ho8 hc8 hc9 hk8
      go_wp2_with fail
      ((with_reducible refine HQ.out.mono ?_); rintro e w9 ⟨rfl, hk9⟩)
      have W9 := Lib.hid (W8.out.quiet hk9)
      have HFF := forget_any W9.out.site gq
      rw [HFN.out.1] at HFF
      have HF2 := Lib.hid HFF
      have hbx := W9.out.box
      clear hk9 HQ HFF
      go_wp2_with fail
      ((with_reducible refine HF2.out.mono ?_); rintro e wA ⟨rfl, hsA, hkA⟩)
      have WA := Lib.hid (W9.out.left hsA hkA)
      have HLL := learn_any WA.out.site gq 9 (by omega) (by omega)
      rw [HFN.out.2.1] at HLL
      have HL2 := Lib.hid HLL
      have hbx := WA.out.box
      clear hsA hkA HF2 HLL
      go_wp2_with fail
      ((with_reducible refine HL2.out.mono ?_); rintro e wB ⟨rfl, hsB, hkB⟩)
      have WB := Lib.hid (WA.out.left hsB hkB)
      have hbx := WB.out.box
      clear hsB hkB HL2
      go_wp2_with fail
      have KC := Lib.hid hbx
      have K := Lib.hid (show Since wB.heap.size wB wB.drew from Since.of (keep_draw _ _))
      have hs3l := HFN.out.2.2
      have hln : s2.shapes.length ≤ 4 := by have := WB.out.site.ok.len; have e : s3.shapes.length = s3.l.length := by unfold CS.shapes; rw [List.length_map]
                                            rw [hs3l] at e; simp at e; omega
      have hbase := WB.out.since.size
      have K2 := Lib.hid (show Since wB.heap.size wB (wB.alloc (.cells #[.int .i64 gq] 3)).drew from Since.of (Keep.trans ((Keep.refl (fun _ => False) wB).alloc' _) (keep_draw _ _)))
      have SR := Lib.hid (show IntsAt (wB.alloc (.cells #[.int .i64 gq] 3)).drew (some ⟨wB.heap.size, 0, none⟩) 1 [gq] from (cells_new wB (ints [gq]) 3 (by simp [ints])))
      have hsr : wB.heap.size < (wB.alloc (.cells #[.int .i64 gq] 3)).drew.heap.size := by show _ < (wB.alloc (.cells #[.int .i64 gq] 3)).heap.size; simp
      clear hbx
      go_region_held3 (fun w' => w'.cell? ⟨B, 0, none⟩ = some (.int .i64 gq)) (first | exact KC.out | exact cell_kept ((Keep.refl (fun _ => False) _).alloc' _) KC.out id)
        (first
          | (go_at_call 17; refine (shapes_any (WB.out.quiet K.out).site).mono ?_; rintro e wC ⟨vC, rfl, hoC, hkC⟩; obtain ⟨AC, cC, rfl, -⟩ := owns_cells hoC; replace K := Lib.hid (Keep.trans K.out (Since.mono hkC K.out.size)); replace KC := Lib.hid ((WB.out.quiet K.out).box); have HOC := Lib.hid hoC; clear hoC hkC)
          | (go_at_call 17; refine (shapes_any (WB.out.quiet K2.out).site).mono ?_; rintro e wC ⟨vC, rfl, hoC, hkC⟩; obtain ⟨AC, cC, rfl, -⟩ := owns_cells hoC; have HSR := Lib.hid (SR.out.keep hkC (fun b hb => by cases hb; simp only; omega)); replace K := Lib.hid (Keep.trans K2.out (Since.mono hkC K2.out.size)); replace KC := Lib.hid ((WB.out.quiet K.out).box); have HOC := Lib.hid hoC; clear hoC hkC)
          | (go_at_call 22; refine (equal_refl HCC.out HCD.out).mono ?_; rintro e wE ⟨rfl, hkE⟩; replace KC := Lib.hid (cell_kept hkE KC.out (by have := HBL.out; simp only; omega)); replace K := Lib.hid (Keep.trans K.out (Since.mono hkE K.out.size)); clear hkE)
          | (rw [if_pos (show Region.wanted _ _ = true from rfl)]; refine oper_append_src 37 3 (.int .i64 0) 8 w.heap.size Tryd.ints (.tmp 83) (.tmp 85) rfl (.slice Av s2.shapes.length cv) s2.shapes.length (ints s2.shapes) rfl (by exact (WB.out.quiet K.out).own.alloc _) _ 1 1 (ints [gq]) rfl (by intro h; cases h) (cells_new _ _ _) (ints_one _) (by omega) (by decide) (by have := K.out.size; simp; omega) ?_; intro AD cD wD hoD hgD hbD; have WQ := Lib.hid (WB.out.quiet K.out); have hkD := app_keep hgD; obtain ⟨HCC, HCD⟩ := app_both HOC.out hoD hkD hs3l WB.out.low'; have HBL := Lib.hid (Nat.lt_of_lt_of_le WQ.out.far.2 hkD.size); replace KC := Lib.hid (cell_kept hkD KC.out (fun e => (WQ.out.ne _ e).2 rfl)); replace K := Lib.hid (Keep.trans WQ.out.since (Keep.mono hkD (fun i hi => own_low WQ.out.own hi))); clear hoD hgD hbD hkD HOC WQ)
          | (rw [if_pos (show Region.wanted _ _ = true from rfl)]; refine oper_append_src 37 3 (.int .i64 0) 8 w.heap.size Tryd.ints (.tmp 83) (.tmp 85) rfl (.slice Av s2.shapes.length cv) s2.shapes.length (ints s2.shapes) rfl (by exact (WB.out.quiet K.out).own) _ 1 1 (ints [gq]) rfl (by intro h; cases h) HSR.out (ints_one _) (by omega) (by decide) (by have := K.out.size; simp; omega) ?_; intro AD cD wD hoD hgD hbD; have WQ := Lib.hid (WB.out.quiet K.out); have hkD := own_keep hgD; obtain ⟨HCC, HCD⟩ := app_both HOC.out hoD hkD hs3l (fun b hb => Nat.lt_trans (WB.out.low' b hb) hsr); have HBL := Lib.hid (Nat.lt_of_lt_of_le WQ.out.far.2 hkD.size); replace KC := Lib.hid (cell_kept hkD KC.out (fun e => (WQ.out.ne _ e).2 rfl)); replace K := Lib.hid (Keep.trans WQ.out.since (Keep.mono hkD (fun i hi => own_low WQ.out.own hi))); clear hoD hgD hbD hkD HOC WQ))
      all_goals go_wp2_with fail
      all_goals go_ret
      all_goals exact ⟨rfl, below_since K.out rfl⟩
set_option maxRecDepth 100000 in
theorem order_lifted (os : Os) (started : os.Started) (H : Type) (enc : TypeId × Value → H) :
    ReturnsInHanded {} Tryd.checked os 9 .any (fun w args => (Rows.cacheOrderSpec.pre enc Tryd.prog Tryd.f9 Rows.cacheOrderRow.domain false w args ∧ laidMet Tryd.prog Rows.cacheOrderRow.laid w) ∧ sizedMet enc Tryd.prog Tryd.f9 (OpenSpec.ofChange Rows.cacheOrderSpec) false w args) (Rows.cacheOrderSpec.post enc Tryd.prog Tryd.f9 false true false false) := by
  refine law_lift_laid (C := Tryd.checked) (X := fun w _ => laidMet Tryd.prog tabs w) (fun _ _ _ hh h => h.of_heap hh) Tryd.own started (by kernel_rfl) Tryd.func9
    (ChangeSpec.witness_at (enc := enc) (C := Tryd.checked) (os := os) (X := fun w _ => laidMet Tryd.prog tabs w) false (laidWorld os) #[.slice none 0 0, .int .u8 0] 8 rfl (by kernel_rfl) (by kernel_rfl) (by kernel_rfl) (by kernel_rfl) (by kernel_rfl) (laidWorld_met os _))
    Tryd.laidOut (by kernel_rfl) rfl rfl Tryd.underlying4 ?_ ?_
  · intro ds hl
    match ds, hl with
    | [d1, d2], _ => exact ⟨rfl, rfl, rfl⟩
  · intro W base args ds p hval0 hA0 hlt hsz0 hL
    have hval : ∀ (j : Nat) t v, Tryd.f9.params[j]? = some t → args[j]? = some v → Value.okWide Tryd.prog W .any base t v := hval0
    have hA : DataW.TrodAll enc Tryd.prog W 0 (fun _ => true) true Tryd.f9.params.toList args.toList ds p := hA0
    have hsz : (DataW.weightsEach Tryd.prog Tryd.f9.params.toList ds).all (· ≤ reachBytes) = true := hsz0
    rw [Tryd.params9] at hA hval hsz
    clear hA0 hval0 hsz0
    obtain ⟨v0, v1, d0, d1, p0, p1, rfl, rfl, rfl, h0, h1⟩ := trodAll_two hA
    have hlt0 : ∀ x ∈ p0, x.block < W.heap.size := fun x hx => hlt x (by simp [hx])
    have hlt1 : ∀ x ∈ p1, x.block < W.heap.size := fun x hx => hlt x (by simp [hx])
    obtain ⟨Al, nl, cl, l, rfl, il, zl, rl, wl⟩ := open_u8s_at Tryd.underlying40 Tryd.underlying5 (by kernel_rfl) (by kernel_rfl) (hval 0 40 v0 rfl rfl) h0 hlt0 (fun el sp hd => sized_slice hsz (j := 0) rfl (by simp [hd]) Tryd.underlying40)
    obtain ⟨g, rfl, rfl, rfl, wg⟩ := open_int Tryd.underlying5 (hval 1 5 v1 rfl rfl) h1
    exact order_walk Al nl cl l g W il (fun x hx => bd_u8 (wl x hx)) zl rl (bd_u8 wg) (tb_of_laid hL)

/-- The row. -/
theorem order_row : Rows.CacheOrderSaid :=
  OpenClaim.holds_of_wide 9 Tryd.f9 rfl rfl rfl rfl rfl rfl rfl ⟨rfl, rfl, rfl, rfl, rfl⟩ rfl rfl rfl rfl rfl (by kernel_rfl) Tryd.func9 (by kernel_rfl)
    (of_decide_eq_true (by kernel_rfl)) (by unfold Func.isWrapper; first | (rw [if_pos (by decide +kernel)]; kernel_rfl) | (rw [if_neg (by decide +kernel)]; exact ⟨rfl, rfl⟩))
    (fun os started H enc _ => order_lifted os started H enc)
/-- The statement: the tied card. -/
theorem order_holds : Rows.CacheOrderCardSaid :=
  Claim7.holds_tied_plain_at .later [] [.data, .data, .data] true (true, "dac5fa98be8ba01293bcc018d0cdd3b90fbf6db38275f6b49ccd14927eae94f6") false
    order_row (fun _ h => by cases h) (by kernel_rfl) (fun _ h => by cases h) cacheOrder_row_tie rfl ⟨rfl, rfl⟩ (by kernel_rfl) rfl
    (fun f fn hf hfn => by
      obtain rfl : f = 9 := Option.some.inj ((show Tryd.prog.funcNamed "facsimile/facsimilelaw12.CacheOrder" = some 9 by kernel_rfl).symm.trans hf) |>.symm
      obtain rfl : fn = Tryd.f9 := (Option.some.inj (Tryd.func9.symm.trans hfn)).symm
      exact ⟨by kernel_rfl, fun j t ht => by
        have h := List.all_eq_true.1 (show (Tryd.f9.params.toList.all fun t => !Tryd.prog.wantsStandIn t) = true by kernel_rfl) t (List.mem_of_getElem? (by simpa using ht))
        exact (show Tryd.prog.wantsStandIn t = false by simpa using h)⟩)
    (by kernel_rfl)
#print axioms order_holds
end Go.Proofs.YtdfmmgepapiamaaDoor
