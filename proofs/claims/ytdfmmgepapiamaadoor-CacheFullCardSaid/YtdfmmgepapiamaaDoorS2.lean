/- A cache's site: Find, Learn, Forget, Shapes. -/
import Derived.Test.YtdfmmgepapiamaaDoorS1
import Derived.IntWalk
namespace Go.Proofs.YtdfmmgepapiamaaDoor
open Go.RowKit
set_option linter.unusedVariables false

theorem IsSite.tailed {w w' : World} {p : Nat} {s s' : CS} (h : IsSite w p s) (hl : s'.l = s.l) (hb : ∀ e : List Value, e.length = 8 → w.heap[p]? = some (.cells (e ++ tail4 s).toArray 53 (0, 0)) → w'.heap[p]? = some (.cells (e ++ tail4 s').toArray 53 (0, 0))) (ok : s'.Ok) : IsSite w' p s' :=
  let ⟨e, h1, h2, h3, _⟩ := h; ⟨e, h1, hl ▸ h2, hb e h1 h3, ok⟩
set_option maxHeartbeats 1000000 in
theorem find_any {w : World} {p : Nat} {s : CS} (h : IsSite w p s) (x : Int) (hf : s.few 999999) :
    Calls Tryd.prog 13 #[.pointer (some ⟨p, 0, none⟩), .int .i64 x] w fun e w' => e = .returned (.tuple #[.int .i64 (s.find x).1.1, .bool (s.find x).1.2]) ∧ IsSite w' p (s.find x).2 ∧ Keep (fun k => k = p) w w' := by
  obtain ⟨c8, c9, c10, c11, fz⟩ := h.cells
  have hh := h.ok.hits
  have hm := h.ok.misses
  have h6 := hf.1
  have h7 := hf.2
  have f10 := fz 10
  have f11 := fz 11
  have HF := Lib.hid (find_ok h.ok x hf)
  have H := Lib.hid h
  rcases idx_cases s.l x with ⟨k, e, hk⟩ | ⟨e, ha⟩
  · have hix := index_some h x hk
    obtain ⟨q1, q2⟩ := h.pair k hk.1
    have hk4 : k < 4 := by have := hk.1; have := h.ok.len; omega
    have hEq : s.find x = (((prAt s.l k).2, true), { s with hits := s.hits + 1 }) := by unfold CS.find; rw [e]
    rw [hEq] at HF ⊢
    obtain ⟨b, hb⟩ : ∃ b, (prAt s.l k).2 = b := ⟨_, rfl⟩
    rw [hb] at q2 ⊢
    have HIX := Lib.hid hix
    clear h hf hix q1 hEq hb e hk fz
    go_enter Tryd.func13, Tryd.ntmps13
    go_wp2_with fail
    (with_reducible refine HIX.out.mono ?_); rintro e w' ⟨rfl, rfl⟩
    go_wp2_with fail
    go_ret2
    refine ⟨rfl, H.out.tailed rfl (fun e he hb => ?_) HF.out, keep_set (Keep.refl _ w) _ _⟩
    have := blk_set hb 10 (.int .i64 (s.hits + 1))
    rw [show 10 = 8 + 2 from rfl, app_set_right _ _ _ _ he] at this
    exact this
  · have hix := index_none h x ha
    have hEq : s.find x = ((0, false), { s with misses := s.misses + 1 }) := by unfold CS.find; rw [e]
    rw [hEq] at HF ⊢
    have HIX := Lib.hid hix
    clear h hf hix hEq e ha fz
    go_enter Tryd.func13, Tryd.ntmps13
    go_wp2_with fail
    (with_reducible refine HIX.out.mono ?_); rintro e w' ⟨rfl, rfl⟩
    go_wp2_with fail
    go_ret2
    refine ⟨rfl, H.out.tailed rfl (fun e he hb => ?_) HF.out, keep_set (Keep.refl _ w) _ _⟩
    have := blk_set hb 11 (.int .i64 (s.misses + 1))
    rw [show 11 = 8 + 3 from rfl, app_set_right _ _ _ _ he] at this
    exact this

/-! ### Learn -/
theorem pairs_set {e : List Value} {l : List (Int × Int)} {k : Nat} {x y : Int} (h : PairsAt e l) (hk : First l x k) (he : l.length * 2 ≤ e.length) : PairsAt (e.set (k * 2 + 1) (.int .i64 y)) (l.set k (x, y)) := by
  intro i hi
  rw [List.length_set] at hi
  obtain ⟨a, b⟩ := h i hi
  by_cases hik : i = k
  · subst hik
    have e1 : prAt (l.set i (x, y)) i = (x, y) := by simp [prAt, List.getD_eq_getElem?_getD, hi]
    rw [e1]
    constructor
    · rw [List.getElem?_set_ne (by omega), a, hk.2.1]
    · rw [List.getElem?_set_self (by omega)]
  · have e1 : prAt (l.set k (x, y)) i = prAt l i := by simp [prAt, List.getD_eq_getElem?_getD, List.getElem?_set_ne (Ne.symm hik)]
    rw [e1]
    exact ⟨by rw [List.getElem?_set_ne (by omega), a], by rw [List.getElem?_set_ne (by omega), b]⟩
theorem pairs_snoc {e : List Value} {l : List (Int × Int)} {x y : Int} (h : PairsAt e l) (he : l.length * 2 + 2 ≤ e.length) : PairsAt ((e.set (l.length * 2) (.int .i64 x)).set (l.length * 2 + 1) (.int .i64 y)) (l ++ [(x, y)]) := by
  intro i hi
  rw [List.length_append, List.length_singleton] at hi
  by_cases hik : i = l.length
  · subst hik
    have e1 : prAt (l ++ [(x, y)]) l.length = (x, y) := by simp [prAt, List.getD_eq_getElem?_getD]
    rw [e1]
    constructor
    · rw [List.getElem?_set_ne (by omega), List.getElem?_set_self (by omega)]
    · rw [List.getElem?_set_self (by rw [List.length_set]; omega)]
  · obtain ⟨a, b⟩ := h i (by omega)
    have e1 : prAt (l ++ [(x, y)]) i = prAt l i := by simp [prAt, List.getD_eq_getElem?_getD, List.getElem?_append_left (show i < l.length by omega)]
    rw [e1]
    exact ⟨by rw [List.getElem?_set_ne (by omega), List.getElem?_set_ne (by omega), a], by rw [List.getElem?_set_ne (by omega), List.getElem?_set_ne (by omega), b]⟩

theorem IsSite.room {w : World} {p : Nat} {s : CS} (h : IsSite w p s) (hl : s.l.length < 4) : (∃ u, w.cell? ⟨p, s.l.length * 2, none⟩ = some u) ∧ ∃ u, w.cell? ⟨p, s.l.length * 2 + 1, none⟩ = some u := by
  obtain ⟨e, h1, h2, h3, h4⟩ := h
  have key : ∀ i, i < 8 → ∃ u, w.cell? ⟨p, i, none⟩ = some u := fun i hi => by
    refine ⟨e[i]'(by omega), ?_⟩
    rw [blk_cell h3, ← Array.getElem?_toList]
    show (e ++ tail4 s)[i]? = _
    rw [List.getElem?_append_left (by omega), List.getElem?_eq_getElem (by omega)]
  exact ⟨key _ (by omega), key _ (by omega)⟩
set_option maxHeartbeats 1000000 in
theorem learn_any {w : World} {p : Nat} {s : CS} (h : IsSite w p s) (x y : Int) (hx : -9223372036854775808 ≤ x ∧ x ≤ 9223372036854775807) (hy : -9223372036854775808 ≤ y ∧ y ≤ 9223372036854775807) :
    Calls Tryd.prog 12 #[.pointer (some ⟨p, 0, none⟩), .int .i64 x, .int .i64 y] w fun e w' => e = .returned (.int .i64 (s.learn x y).1) ∧ IsSite w' p (s.learn x y).2 ∧ Keep (fun k => k = p) w w' := by
  obtain ⟨c8, c9, c10, c11, fz⟩ := h.cells
  have HL := Lib.hid (learn_ok h.ok x y hx.2 hy.2)
  have H := Lib.hid h
  have hl4 := h.ok.len
  by_cases h1 : x < 0
  · have hEq : s.learn x y = (1, s) := by unfold CS.learn; rw [if_pos (.inl h1)]
    rw [hEq] at HL ⊢
    clear h hEq fz
    go_enter Tryd.func12, Tryd.ntmps12
    go_wp2_with fail
    go_ret
    exact ⟨rfl, H.out, Keep.refl _ _⟩
  have b1 : decide (x < 0) = false := by simpa using h1
  by_cases h2 : y < 0
  · have hEq : s.learn x y = (1, s) := by unfold CS.learn; rw [if_pos (.inr h2)]
    rw [hEq] at HL ⊢
    clear h hEq fz
    go_enter Tryd.func12, Tryd.ntmps12
    go_wp2_with fail
    go_ret
    exact ⟨rfl, H.out, Keep.refl _ _⟩
  have b2 : decide (y < 0) = false := by simpa using h2
  have hn : ¬ (x < 0 ∨ y < 0) := by omega
  cases hfl : s.full with
  | true =>
    have hEq : s.learn x y = (2, s) := by unfold CS.learn; rw [if_neg hn, if_pos hfl]
    rw [hEq] at HL ⊢
    rw [hfl] at c9
    clear h hEq fz hfl
    go_enter Tryd.func12, Tryd.ntmps12
    go_wp2_with fail
    go_ret
    exact ⟨rfl, H.out, Keep.refl _ _⟩
  | false =>
    rcases idx_cases s.l x with ⟨k, e, hk⟩ | ⟨e, ha⟩
    · have hix := index_some h x hk
      obtain ⟨q1, q2⟩ := h.pair k hk.1
      have hkl := hk.1
      have hk4 : k < 4 := by omega
      have fk := fz (k * 2 + 1)
      have hEq : s.learn x y = (0, { s with l := s.l.set k (x, y) }) := by unfold CS.learn; rw [if_neg hn, if_neg (by rw [hfl]; simp), e]
      rw [hEq] at HL ⊢
      rw [hfl] at c9
      have HIX := Lib.hid hix
      have HK := Lib.hid hk
      clear h hix hEq e hk fz hfl hn q1
      go_enter Tryd.func12, Tryd.ntmps12
      go_wp2_with fail
      (with_reducible refine HIX.out.mono ?_); rintro e w' ⟨rfl, rfl⟩
      go_wp2_with fail
      go_ret
      obtain ⟨e, he, hp, hb, ok⟩ := H.out
      refine ⟨rfl, ⟨e.set (k * 2 + 1) (.int .i64 y), by simpa using he, pairs_set hp HK.out (by omega), ?_, HL.out⟩, keep_set (Keep.refl _ w) _ _⟩
      have := blk_set hb (k * 2 + 1) (.int .i64 y)
      rw [app_set_left _ _ _ _ (by omega)] at this
      rw [this]
      simp [tail4]
    · have hix := index_none h x ha
      have HIX := Lib.hid hix
      rw [hfl] at c9
      by_cases h4 : s.l.length = 4
      · have hEq : s.learn x y = (2, { s with l := [], full := true }) := by unfold CS.learn; rw [if_neg hn, if_neg (by rw [hfl]; simp), e]; simp only [h4, if_true]
        rw [hEq] at HL ⊢
        rw [h4] at c8
        have f9 := fz 9
        have f8 := fz 8
        have H4 := Lib.hid h4
        clear h hix hEq e ha fz hfl hn h4
        go_enter Tryd.func12, Tryd.ntmps12
        go_wp2_with fail
        (with_reducible refine HIX.out.mono ?_); rintro e w' ⟨rfl, rfl⟩
        go_wp2_with fail
        go_ret
        obtain ⟨e, he, hp, hb, ok⟩ := H.out
        refine ⟨rfl, ⟨e, he, fun i hi => absurd hi (by simp), ?_, HL.out⟩, keep_set (keep_set (Keep.refl _ w) _ _) _ _⟩
        have := blk_set hb 9 (.bool true)
        rw [show 9 = 8 + 1 from rfl, app_set_right _ _ _ _ he] at this
        have := blk_set this 8 (.int .i64 0)
        rw [show 8 = 8 + 0 from rfl, app_set_right _ _ _ _ he] at this
        exact this
      · have hEq : s.learn x y = (0, { s with l := s.l ++ [(x, y)] }) := by unfold CS.learn; rw [if_neg hn, if_neg (by rw [hfl]; simp), e]; simp only [h4, if_false]
        rw [hEq] at HL ⊢
        have b4 : ((s.l.length : Int) == 4) = false := by simp; omega
        have hl3 : s.l.length < 4 := by omega
        have hi1 : (0 : Int) ≤ (s.l.length : Int) := by omega
        have hi2 : (s.l.length : Int) < 4 := by omega
        have fa := fz (s.l.length * 2)
        have fb := fz (s.l.length * 2 + 1)
        have f8 := fz 8
        obtain ⟨m, hm⟩ : ∃ m, s.l.length = m := ⟨_, rfl⟩
        have HM := Lib.hid hm
        have CU := Lib.hid (h.room (by omega))
        rw [hm] at CU
        rw [hm] at c8 b4 hl3 fa fb hl4 hi1 hi2
        clear h hix hEq e ha fz hfl hn h4 hm
        go_enter Tryd.func12, Tryd.ntmps12
        go_wp2_with fail
        (with_reducible refine HIX.out.mono ?_); rintro e w' ⟨rfl, rfl⟩
        go_wp2_with fail
        go_still_tail 11, (by kernel_rfl)
        change wpList _ _ _ _ _ w.drew
        obtain ⟨u1, ca⟩ := CU.out.1
        obtain ⟨u2, cb⟩ := CU.out.2
        have D8 : w.drew.cell? ⟨p, 8, none⟩ = some (.int .i64 (m : Int)) := c8
        have DA : w.drew.cell? ⟨p, m * 2, none⟩ = some u1 := ca
        have DB : w.drew.cell? ⟨p, m * 2 + 1, none⟩ = some u2 := cb
        have GA : w.drew.frozen? ⟨p, m * 2, none⟩ = false := fa
        have GB : w.drew.frozen? ⟨p, m * 2 + 1, none⟩ = false := fb
        have G8 : w.drew.frozen? ⟨p, 8, none⟩ = false := f8
        have H' := Lib.hid (show IsSite w.drew p s from H.out.keep (keep_draw (fun _ => False) w) (fun h => h))
        have K0 := Lib.hid (keep_draw (fun k => k = p) w)
        obtain ⟨wd, hwd⟩ : ∃ wd, w.drew = wd := ⟨_, rfl⟩
        rw [hwd] at D8 DA DB GA GB G8 H' K0 ⊢
        clear hwd c8 c9 c10 c11 fa fb f8 ca cb
        go_wp2_with fail
        go_ret
        obtain ⟨e, he, hp, hb, ok⟩ := H'.out
        have hm := HM.out
        refine ⟨rfl, ⟨(e.set (m * 2) (.int .i64 x)).set (m * 2 + 1) (.int .i64 y), by simpa using he, by rw [← hm]; exact pairs_snoc hp (by omega), ?_, HL.out⟩, K0.out.trans (keep_set (keep_set (keep_set (Keep.refl _ wd) _ _) _ _) _ _)⟩
        have h1 := blk_set hb (m * 2) (.int .i64 x)
        rw [app_set_left _ _ _ _ (by omega)] at h1
        have h2 := blk_set h1 (m * 2 + 1) (.int .i64 y)
        rw [app_set_left _ _ _ _ (by rw [List.length_set]; omega)] at h2
        have h3 := blk_set h2 8 (.int .i64 ((m : Int) + 1))
        rw [show 8 = 8 + 0 from rfl, app_set_right _ _ _ _ (by rw [List.length_set, List.length_set]; exact he)] at h3
        rw [h3]
        simp [tail4, hm]

/-! ### Forget -/
theorem run_copy_sized {P : Program} (w : World) (dT sT ty elem : TypeId) (sz g o dLen dCap : Nat) (a : Addr) (sLen sCap : Nat) (cur : Array Value) (t : TypeId) (cs : List Value)
    (hu : P.underlying dT = some (.slice elem)) (hs : (P.info? elem).map (·.size) = some sz)
    (hg : w.heap[g]? = some (.cells cur t (0, 0))) (hn : cs.length = Nat.min sLen dLen * sz)
    (hsrc : ∀ j v, cs[j]? = some v → w.cell? (a.add j) = some v) (hfit : o + cs.length ≤ cur.size) (h1 : ∀ v ∈ cs, v.oneCell' = true) :
    (Builtin.copy_ #[dT, sT] ty #[.slice (some ⟨g, o, none⟩) dLen dCap, .slice (some a) sLen sCap]).run P w =
      .ok (goInt (Nat.min sLen dLen)) (w.setRow g (cur.toList.take o ++ cs ++ cur.toList.drop (o + cs.length)).toArray) := by
  have hl := run_loadCells_list (P := P) w a cs hsrc
  have hst := run_storeCells_at P g o t cs 0 cur w hg (by simpa using hfit) h1
  cases hq : P.info? elem with
  | none => simp [hq] at hs
  | some i =>
    have hi : i.size = sz := by simpa [hq] using hs
    simp [Builtin.copy_, run_underlying hu, Builtin.lenOf, Builtin.firstCells, sizeOf, typeInfo, hq, hi, ← hn, hl, hst]
theorem wpList_copy_sized {P : Program} {w : World} {ops : Array Oper} {rest : List Oper} {o : Oper} {a : Act} {Q : Exit → Act → World → Prop} (hgd : o.guard = none) (d s : Operand) (dT sT : TypeId)
    (ho : o.op = .call { callee := .builtin .copy, args := #[d, s], argTypes := #[dT, sT] }) (elem : TypeId) (hu : P.underlying dT = some (.slice elem)) (sz : Nat) (hsz : (P.info? elem).map (·.size) = some sz)
    (g off dLen dCap : Nat) (ad : Addr) (sLen sCap : Nat) (hd : a.eval d = .slice (some ⟨g, off, none⟩) dLen dCap) (hs : a.eval s = .slice (some ad) sLen sCap)
    (cur : Array Value) (t : TypeId) (hg : w.heap[g]? = some (.cells cur t (0, 0))) (cs : List Value) (hn : cs.length = Nat.min sLen dLen * sz)
    (hsrc : ∀ j v, cs[j]? = some v → w.cell? (ad.add j) = some v) (hfit : off + cs.length ≤ cur.size) (h1 : ∀ v ∈ cs, v.oneCell' = true)
    (h : wpList P ops Q rest (a.put o.dst (goInt (Nat.min sLen dLen))) (w.setRow g (cur.toList.take off ++ cs ++ cur.toList.drop (off + cs.length)).toArray)) : wpList P ops Q (o :: rest) a w := by
  refine wpList_plain hgd fun K hK => ?_
  have hrun := run_copy_sized (P := P) w dT sT o.type elem sz g off dLen dCap ad sLen sCap cur t cs hu hsz hg hn hsrc hfit h1
  unfold Oper.wp
  simp only [execOp, ho, resolve, invoke, builtin, hd, hs, hrun, Result.andThen, List.map_toArray, List.map_cons, List.map_nil, Sem.run_bind, Sem.run_pure]
  exact hK _ _ h

theorem run_cut_arr (w : World) (p k m : Nat) (h1 : k < m) (h2 : m ≤ 4) :
    (Instr.sliceAt 51 (.pointer (some ⟨p, 0, none⟩)) (some (.int .i64 ((k : Int) + 1))) (some (.int .i64 (m : Int))) none).run Tryd.prog w = .ok (.slice (some ⟨p, if k = 3 then 0 else (k + 1) * 2, none⟩) (m - (k + 1)) (3 - k)) w := by
  have hi1 : (0 : Int) ≤ (k : Int) := by omega
  have hi3 : (0 : Int) ≤ (k : Int) + 1 := by omega
  have hi4 : (k : Int) + 1 ≤ (m : Int) := by omega
  have hi5 : (m : Int) ≤ 4 := by omega
  go_simp
  split <;> rfl
theorem pairs_erase {e : List Value} {l : List (Int × Int)} {k : Nat} (h : PairsAt e l) (hk : k < l.length) (he : l.length * 2 ≤ e.length) :
    PairsAt (e.take (k * 2) ++ ((e.drop ((k + 1) * 2)).take ((l.length - (k + 1)) * 2) ++ e.drop (k * 2 + (l.length - (k + 1)) * 2))) (l.eraseIdx k) := by
  intro i hi
  rw [List.length_eraseIdx_of_lt hk] at hi
  by_cases hik : i < k
  · have e1 : prAt (l.eraseIdx k) i = prAt l i := by simp [prAt, List.getD_eq_getElem?_getD, List.getElem?_eraseIdx_of_lt hik]
    obtain ⟨a, b⟩ := h i (by omega)
    rw [e1]
    constructor
    · rw [List.getElem?_append_left (by rw [List.length_take]; omega), List.getElem?_take_of_lt (by omega), a]
    · rw [List.getElem?_append_left (by rw [List.length_take]; omega), List.getElem?_take_of_lt (by omega), b]
  · have e1 : prAt (l.eraseIdx k) i = prAt l (i + 1) := by simp [prAt, List.getD_eq_getElem?_getD, List.getElem?_eraseIdx_of_ge (by omega : k ≤ i)]
    obtain ⟨a, b⟩ := h (i + 1) (by omega)
    have hlt : (e.take (k * 2)).length = k * 2 := by rw [List.length_take]; omega
    have hl2 : ((e.drop ((k + 1) * 2)).take ((l.length - (k + 1)) * 2)).length = (l.length - (k + 1)) * 2 := by rw [List.length_take, List.length_drop]; omega
    rw [e1]
    constructor
    · rw [List.getElem?_append_right (by omega), hlt, List.getElem?_append_left (by omega), List.getElem?_take_of_lt (by omega), List.getElem?_drop, ← a]
      congr 1; omega
    · rw [List.getElem?_append_right (by omega), hlt, List.getElem?_append_left (by omega), List.getElem?_take_of_lt (by omega), List.getElem?_drop, ← b]
      congr 1; omega
/-- What the copy makes of a site's block. -/
theorem forget_block {w : World} {p k : Nat} {s : CS} (h : IsSite w p s) (hk : k < s.l.length) (ok : (({ s with l := s.l.eraseIdx k } : CS)).Ok) :
    ∃ cs cur : List Value, w.heap[p]? = some (.cells cur.toArray 53 (0, 0)) ∧ cs.length = (s.l.length - (k + 1)) * 2 ∧ (∀ v ∈ cs, v.oneCell' = true) ∧ k * 2 + cs.length ≤ cur.length ∧
      (∀ (o : Nat), (if k = 3 then 0 else (k + 1) * 2) = o → ∀ j v, cs[j]? = some v → w.cell? (Addr.add ⟨p, o, none⟩ j) = some v) ∧
      ∀ w1 : World, w1.heap[p]? = some (.cells (cur.take (k * 2) ++ cs ++ cur.drop (k * 2 + cs.length)).toArray 53 (0, 0)) →
        w1.cell? ⟨p, 8, none⟩ = some (.int .i64 (s.l.length : Int)) ∧ w1.frozen? ⟨p, 8, none⟩ = false ∧ IsSite (w1.setCell ⟨p, 8, none⟩ (.int .i64 ((s.l.length : Int) - 1))) p { s with l := s.l.eraseIdx k } := by
  obtain ⟨e, he, hp, hb, hok⟩ := h
  have hl4 := hok.len
  obtain ⟨cs, hcs⟩ : ∃ cs, (e.drop ((k + 1) * 2)).take ((s.l.length - (k + 1)) * 2) = cs := ⟨_, rfl⟩
  have hcl : cs.length = (s.l.length - (k + 1)) * 2 := by rw [← hcs, List.length_take, List.length_drop]; omega
  have hget : ∀ j, j < cs.length → cs[j]? = e[(k + 1) * 2 + j]? := fun j hj => by
    rw [← hcs, List.getElem?_take_of_lt (by omega), List.getElem?_drop]
  refine ⟨cs, e ++ tail4 s, hb, hcl, fun v hv => ?_, by rw [List.length_append]; simp [tail4]; omega, fun o ho j v hv => ?_, fun w1 h1 => ?_⟩
  · obtain ⟨j, hj, rfl⟩ := List.getElem_of_mem hv
    have h1 := hget j hj
    rw [List.getElem?_eq_getElem hj] at h1
    obtain ⟨q, hq⟩ : ∃ q, j = q * 2 ∨ j = q * 2 + 1 := ⟨j / 2, by omega⟩
    obtain ⟨a, b⟩ := hp (k + 1 + q) (by omega)
    rcases hq with rfl | rfl
    · rw [show (k + 1) * 2 + q * 2 = (k + 1 + q) * 2 by omega, a] at h1
      rw [Option.some.inj h1]; rfl
    · rw [show (k + 1) * 2 + (q * 2 + 1) = (k + 1 + q) * 2 + 1 by omega, b] at h1
      rw [Option.some.inj h1]; rfl
  · have hj : j < cs.length := (List.getElem?_eq_some_iff.1 hv).1
    have : k ≠ 3 := by omega
    rw [if_neg this] at ho
    subst ho
    rw [Addr.add_lit, blk_cell hb, ← Array.getElem?_toList]
    show (e ++ tail4 s)[_]? = _
    rw [List.getElem?_append_left (by omega), ← hget j hj, hv]
  · have hcur : (e ++ tail4 s).take (k * 2) ++ cs ++ (e ++ tail4 s).drop (k * 2 + cs.length) = (e.take (k * 2) ++ (cs ++ e.drop (k * 2 + (s.l.length - (k + 1)) * 2))) ++ tail4 s := by
      rw [List.take_append_of_le_length (by omega), List.drop_append_of_le_length (by omega), hcl]
      simp
    rw [hcur] at h1
    have hel : (e.take (k * 2) ++ (cs ++ e.drop (k * 2 + (s.l.length - (k + 1)) * 2))).length = 8 := by
      simp only [List.length_append, List.length_take, List.length_drop, hcl, he]; omega
    have hpe := pairs_erase hp hk (by omega)
    rw [hcs] at hpe
    have h8 := blk_set h1 8 (.int .i64 ((s.l.length : Int) - 1))
    rw [show 8 = 8 + 0 from rfl, app_set_right _ _ _ _ hel] at h8
    refine ⟨?_, blk_free h1 8, _, hel, hpe, ?_, ok⟩
    · rw [blk_cell h1, ← Array.getElem?_toList]
      show (_ ++ tail4 s)[8]? = _
      rw [List.getElem?_append_right (by omega), hel]
      rfl
    · rw [h8]
      have : ((s.l.eraseIdx k).length : Int) = (s.l.length : Int) - 1 := by rw [List.length_eraseIdx_of_lt hk]; omega
      simp only [tail4, this, List.set_cons_zero]
set_option maxHeartbeats 1000000 in
theorem forget_any {w : World} {p : Nat} {s : CS} (h : IsSite w p s) (x : Int) :
    Calls Tryd.prog 15 #[.pointer (some ⟨p, 0, none⟩), .int .i64 x] w fun e w' => e = .returned (.bool (s.forget x).1) ∧ IsSite w' p (s.forget x).2 ∧ Keep (fun k => k = p) w w' := by
  obtain ⟨c8, c9, c10, c11, fz⟩ := h.cells
  have HL := Lib.hid (forget_ok h.ok x)
  have H := Lib.hid h
  have hl4 := h.ok.len
  rcases idx_cases s.l x with ⟨k, e, hk⟩ | ⟨e, ha⟩
  · have hix := index_some h x hk
    have hkl := hk.1
    have f8 := fz 8
    have hEq : s.forget x = (true, { s with l := s.l.eraseIdx k }) := by unfold CS.forget; rw [e]
    rw [hEq] at HL ⊢
    have HIX := Lib.hid hix
    have HK := Lib.hid hk
    obtain ⟨m, hm⟩ : ∃ m, s.l.length = m := ⟨_, rfl⟩
    have HM := Lib.hid hm
    rw [hm] at c8 hkl hl4
    have hi1 : (0 : Int) ≤ (k : Int) := by omega
    have hi2 : (k : Int) ≤ 4 := by omega
    have hi3 : (0 : Int) ≤ (k : Int) + 1 := by omega
    have hi4 : (k : Int) + 1 ≤ (m : Int) := by omega
    have hi5 : (m : Int) ≤ 4 := by omega
    have hk4 : ¬ 4 = k := by omega
    have hcut := fun w => run_cut_arr w p k m hkl hl4
    obtain ⟨o, ho⟩ : ∃ o, (if k = 3 then 0 else (k + 1) * 2) = o := ⟨_, rfl⟩
    rw [ho] at hcut
    have HO := Lib.hid ho
    have hw1 : IntKind.i64.wrap ((k : Int) + 1) = (k : Int) + 1 := IntWalk.i64_in _ (by omega)
    clear h hix hEq e hk fz hm ho
    go_enter Tryd.func15, Tryd.ntmps15
    go_wp2_with fail
    (with_reducible refine HIX.out.mono ?_); rintro e w' ⟨rfl, rfl⟩
    go_wp2_with fail
    go_still_tail 15, (by kernel_rfl)
    change wpList _ _ _ _ _ w.drew
    have H' := Lib.hid (show IsSite w.drew p s from H.out.keep (keep_draw (fun _ => False) w) (fun h => h))
    have K0 := Lib.hid (keep_draw (fun k => k = p) w)
    obtain ⟨wd, hwd⟩ : ∃ wd, w.drew = wd := ⟨_, rfl⟩
    rw [hwd] at H' K0 ⊢
    obtain ⟨cs, cur, hb, hcl, hone, hfit, hsrc, hend⟩ := forget_block H'.out (by rw [HM.out]; omega) HL.out
    rw [HM.out] at hcl hend
    refine wpList_copy_sized rfl (.tmp 17) (.tmp 27) 62 62 rfl 50 Tryd.underlying62 2 (by kernel_rfl) p (k * 2) (4 - k) (4 - k) ⟨p, o, none⟩ (m - (k + 1)) (3 - k) rfl rfl cur.toArray 53 hb cs ?_ (hsrc o HO.out) (by simpa using hfit) hone ?_
    · rw [hcl]
      congr 1
      exact (Nat.min_eq_left (by omega)).symm
    have hw := setRow_heap wd p _ (cur.take (k * 2) ++ cs ++ cur.drop (k * 2 + cs.length)).toArray _ _ hb
    have KR := Lib.hid (show Keep (fun k => k = p) wd (wd.setRow p (cur.take (k * 2) ++ cs ++ cur.drop (k * 2 + cs.length)).toArray) from ⟨rfl, rfl, rfl, by simp [World.setRow], fun i hi hne => setRow_other wd p i _ hne⟩)
    show wpList _ _ _ _ _ (wd.setRow p (cur.take (k * 2) ++ cs ++ cur.drop (k * 2 + cs.length)).toArray)
    obtain ⟨w1, hw1'⟩ : ∃ w1, wd.setRow p (cur.take (k * 2) ++ cs ++ cur.drop (k * 2 + cs.length)).toArray = w1 := ⟨_, rfl⟩
    rw [hw1'] at hw KR ⊢
    obtain ⟨D8, G8, hs⟩ := hend w1 hw
    have HS := Lib.hid hs
    clear hw hw1' hend hsrc hone hfit hcl hb hs hw1 hwd c8 c9 c10 c11 f8 hcut
    go_wp2_with fail
    go_ret
    exact ⟨rfl, HS.out, K0.out.trans (KR.out.trans (keep_set (Keep.refl _ w1) _ _))⟩
  · have hix := index_none h x ha
    have hEq : s.forget x = (false, s) := by unfold CS.forget; rw [e]
    rw [hEq] at HL ⊢
    have HIX := Lib.hid hix
    clear h hix hEq e ha fz
    go_enter Tryd.func15, Tryd.ntmps15
    go_wp2_with fail
    (with_reducible refine HIX.out.mono ?_); rintro e w' ⟨rfl, rfl⟩
    go_wp2_with fail
    go_ret
    exact ⟨rfl, H.out, Keep.refl _ _⟩
end Go.Proofs.YtdfmmgepapiamaaDoor
