/- CacheFull: of the first shapes four are kept, at the fifth the site is full for good: for every list of shapes the law returns true. -/
import Derived.Test.YtdfmmgepapiamaaDoorS11
import Derived.Test.YtdfmmgepapiamaaDoorKLT
import Derived.Test.YtdfmmgepapiamaaDoorKU
namespace Go.Proofs.YtdfmmgepapiamaaDoor
open Go.ChangeShapes Go.WideShapes Go.ChangeAt Go.RowKit
set_option linter.unusedVariables false

/-! ### Plain laws -/
def SetI (D : DataW Unit) (ks : List Int) : Prop := Maps.Tidy D ∧ (∀ x, Maps.has D (IKey x) = ks.contains x) ∧ Maps.size D = ks.length
def addI (ks : List Int) (x : Int) : List Int := if ks.contains x = true then ks else ks ++ [x]
theorem seti_nil : SetI (.map []) [] := ⟨Maps.tidy_empty, fun _ => rfl, rfl⟩
theorem seti_put {D : DataW Unit} {ks : List Int} (h : SetI D ks) (x : Int) : SetI (D.put (IKey x) (.lit (.bool true))) (addI ks x) := by
  obtain ⟨h1, h2, h3⟩ := h
  refine ⟨h1.put (ikey x) _, fun z => ?_, ?_⟩
  · unfold addI
    by_cases hz : z = x
    · subst hz
      rw [Maps.has_put_same h1.isMap (ikey z)]
      split
      · rename_i e; exact e.symm
      · simp
    · rw [Maps.has_put_other (ikey_ne hz), h2]
      split
      · rfl
      · rw [Bool.eq_iff_iff, List.contains_iff_mem, List.contains_iff_mem]
        simp [hz]
  · rw [Maps.size_put h1, h2, h3]
    unfold addI
    split <;> simp
structure FR (s : CS) (ks : List Int) : Prop where
  open_ : s.full = false → ks = s.shapes
  shut : s.full = true → 4 < ks.length
theorem contains_ans (s : CS) (x : Int) : s.shapes.contains x = (ans s.l x).2 := by
  have h := find_ans s x
  rw [← h]
  unfold CS.find
  rcases idx_cases s.l x with ⟨k, e, hk⟩ | ⟨e, ha⟩
  · rw [e]
    have : s.shapes.contains x = true := by
      rw [List.contains_iff_mem]
      unfold CS.shapes
      exact List.mem_map.2 ⟨prAt s.l k, getD_mem hk.1, hk.2.1⟩
    rw [this]
  · rw [e]
    have : s.shapes.contains x = false := by
      rw [Bool.eq_false_iff]
      intro h
      rw [List.contains_iff_mem] at h
      obtain ⟨p, hp, e2⟩ := List.mem_map.1 h
      obtain ⟨i, hi, rfl⟩ := List.getElem_of_mem hp
      rw [pr_getElem hi] at e2
      exact ha i hi e2
    rw [this]
theorem FR.same {s s' : CS} {ks : List Int} (h : FR s ks) (hl : s'.l = s.l ∧ s'.full = s.full) : FR s' ks := ⟨fun hf => by rw [h.open_ (hl.2.symm.trans hf)]; unfold CS.shapes; rw [hl.1], fun hf => h.shut (hl.2.symm.trans hf)⟩
theorem full_step {s : CS} (ok : s.Ok) {ks : List Int} (h : FR s ks) (x y : Int) (hx : 0 ≤ x) (hy : 0 ≤ y) (ok2 : (s.learn x y).2.Ok) :
    (s.learn x y).1 = (if 4 < (addI ks x).length then 2 else 0) ∧ (s.learn x y).2.full = decide (4 < (addI ks x).length) ∧ FR (s.learn x y).2 (addI ks x) ∧ ((s.learn x y).2.find x).1.2 = !decide (4 < (addI ks x).length) ∧ ((s.learn x y).2.full = false → (s.learn x y).2.l.length = (addI ks x).length) := by
  have hn : ¬ (x < 0 ∨ y < 0) := by omega
  cases hf : s.full with
  | true =>
    have hs := h.shut hf
    have ha : 4 < (addI ks x).length := by
      unfold addI
      split
      · exact hs
      · rw [List.length_append]; omega
    have e : s.learn x y = (2, s) := by unfold CS.learn; rw [if_neg hn, if_pos hf]
    rw [e, if_pos ha]
    have hd : decide (4 < (addI ks x).length) = true := by simpa using ha
    rw [hd]
    refine ⟨rfl, hf, ⟨fun h' => absurd h' (by rw [hf]; decide), fun _ => ha⟩, ?_, fun h' => absurd h' (by rw [hf]; decide)⟩
    rw [find_ans, ok.full hf, ans_nil]
    rfl
  | false =>
    have hs := h.open_ hf
    subst hs
    have hl4 := ok.len
    have hln : s.shapes.length = s.l.length := by unfold CS.shapes; rw [List.length_map]
    rcases idx_cases s.l x with ⟨k, e, hk⟩ | ⟨e, ha⟩
    · have hL : s.learn x y = (0, { s with l := s.l.set k (x, y) }) := by
        unfold CS.learn
        rw [if_neg hn, if_neg (by rw [hf]; simp), e]
      have hc : s.shapes.contains x = true := by
        rw [List.contains_iff_mem]
        exact List.mem_map.2 ⟨prAt s.l k, getD_mem hk.1, hk.2.1⟩
      have ha : addI s.shapes x = s.shapes := by unfold addI; rw [if_pos hc]
      have h1 : ({ s with l := s.l.set k (x, y) } : CS).shapes = s.shapes := set_shapes hk
      rw [ha, if_neg (by omega), hL]
      have hd : decide (4 < s.shapes.length) = false := by simp; omega
      rw [hd]
      refine ⟨rfl, hf, ⟨fun _ => h1.symm, fun h' => absurd h' (by first | (rw [hf]; decide) | (simp only; rw [hf]; decide))⟩, ?_, fun _ => by simp [CS.shapes]⟩
      simp only
      rw [find_ans, ← contains_ans, h1, hc]
      rfl
    · have hc : s.shapes.contains x = false := by
        rw [contains_ans]
        have := find_ans s x
        unfold CS.find at this
        rw [e] at this
        rw [← this]
      have had : addI s.shapes x = s.shapes ++ [x] := by unfold addI; rw [hc, if_neg (by decide)]
      by_cases h4 : s.l.length = 4
      · have hL : s.learn x y = (2, { s with l := [], full := true }) := by
          unfold CS.learn
          rw [if_neg hn, if_neg (by rw [hf]; simp), e]
          simp only [h4, if_true]
        have hlen : 4 < (addI s.shapes x).length := by rw [had]; simp; omega
        have hd : decide (4 < (addI s.shapes x).length) = true := by simpa using hlen
        rw [if_pos hlen, hL, hd]
        exact ⟨rfl, rfl, ⟨fun h' => (by cases h'), fun _ => hlen⟩, by simp only; rw [find_ans, ans_nil]; rfl, fun h' => (by cases h')⟩
      · have hL : s.learn x y = (0, { s with l := s.l ++ [(x, y)] }) := by
          unfold CS.learn
          rw [if_neg hn, if_neg (by rw [hf]; simp), e]
          simp only [h4, if_false]
        have hlen : ¬ 4 < (addI s.shapes x).length := by rw [had]; simp; omega
        have hd : decide (4 < (addI s.shapes x).length) = false := by simpa using hlen
        have h1 : ({ s with l := s.l ++ [(x, y)] } : CS).shapes = s.shapes ++ [x] := by simp [CS.shapes]
        rw [if_neg hlen, hL, hd]
        refine ⟨rfl, hf, ⟨fun _ => by rw [had, h1], fun h' => absurd h' (by first | (rw [hf]; decide) | (simp only; rw [hf]; decide))⟩, ?_, fun _ => by rw [had]; simp [CS.shapes]⟩
        simp only
        rw [find_ans, ← contains_ans, h1]
        simp

/-! ### The set -/
def BMap (w : World) (b n : Nat) (D : DataW Unit) : Prop := w.ownsMap Tryd.prog 3 (plainElem Tryd.prog 4) b n D
theorem BMap.keep {w w' : World} {b n : Nat} {D : DataW Unit} {F : Nat → Prop} (h : BMap w b n D) (hk : Keep F w w') (hF : ¬ F b) : BMap w' b n D := by
  have hl := World.ownsMap.lt h
  obtain ⟨es, cl, hb, r⟩ := h
  exact ⟨es, cl, (hk.block b hl hF).trans hb, r⟩
theorem BMap.made (w : World) : BMap (w.alloc (.map #[] 0)) w.heap.size 0 (.map []) := World.ownsMap_made w _ _ _
theorem I64.wf {x : Int} (h : -9223372036854775808 ≤ x ∧ x ≤ 9223372036854775807) : (Lit.int .i64 x).wf = true := by
  have e1 : IntKind.i64.min = -9223372036854775808 := rfl
  have e2 : IntKind.i64.max = 9223372036854775807 := rfl
  simp [Lit.wf, e1, e2]
  omega
theorem BMap.len {w : World} {b n : Nat} {D : DataW Unit} (h : BMap w b n D) {ks : List Int} (hm : SetI D ks) (ty : TypeId) : (Builtin.len_ #[41] ty #[.map (some b)]).run Tryd.prog w = .ok (.int .i64 (ks.length : Int)) w := by
  have := World.ownsMap.len h Tryd.underlying41 ty
  rw [hm.2.2] at this
  exact this
theorem BMap.store {w : World} {b n : Nat} {D : DataW Unit} (h : BMap w b n D) (hn : n ≤ 1000) (x : Int) (hx : -9223372036854775808 ≤ x ∧ x ≤ 9223372036854775807) :
    ∃ w', (Instr.mapUpdate 41 (.map (some b)) (.int .i64 x) (.bool true)).run Tryd.prog w = .ok () w' ∧ BMap w' b (n + 1) (D.put (IKey x) (.lit (.bool true))) ∧ Keep (fun k => k = b) w w' := by
  obtain ⟨w', hrun, h1, h2⟩ := World.ownsMap.update h (Maps.int_keyed Tryd.underlying3) Tryd.underlying41 (by unfold maxLen; omega) (Maps.keyOf_int_mk Tryd.underlying3 (I64.wf hx)) (plainElem_bool Tryd.underlying4 true)
  exact ⟨w', hrun, h1, (Keep.refl _ w).grown h2 (fun k e => .inl (Option.some.inj e).symm)⟩

structure FI (w : World) (p b : Nat) (s : CS) (ks : List Int) (k : Nat) (wr : World) : Prop where
  site : IsSite wr p s
  map : ∃ D, BMap wr b k D ∧ SetI D ks
  ne : b ≠ p
  base : w.heap.size ≤ b
  few : s.few (k : Int)
  fr : FR s ks
  since : Since w.heap.size w wr
set_option maxHeartbeats 8000000 in
set_option maxRecDepth 100000 in
theorem full_walk (A : Option Addr) (n c : Nat) (l : List Int) (w : World) (hA : CellsAt w A n (l.map (Value.int .u8))) (hl : ∀ x ∈ l, 0 ≤ x ∧ x ≤ 255) (hz : A = none → n = 0 ∧ c = 0) (hr : n ≤ 140737488351232 ∧ n ≤ c) (hT : TB w) :
    Calls Tryd.prog 5 #[.slice A n c] w fun e w' => e = .returned (.bool true) ∧ Below w.heap.size w w' := by
  have hnl := hr.1
  have HA := Lib.hid hA
  have HL := Lib.hid hl
  have T := Lib.hid hT
  have h0 := hT.pos
  clear hT hA hl hz
  have hmm := @run_makeMap Tryd.prog
  go_enter Tryd.func5, Tryd.ntmps5
  go_wp2_with fail
  ((with_reducible refine (sanity_any w T.out).mono ?_); rintro e w1 ⟨rfl, hk1⟩)
  have S1 := Lib.hid hk1; clear hk1
  go_wp2_with fail
  ((with_reducible refine (new_site w1).mono ?_); rintro e w2 ⟨rfl, hs2, hk2⟩)
  have Z := S1.out.size
  obtain ⟨p, hp⟩ : ∃ p, w1.heap.size = p := ⟨_, rfl⟩
  rw [hp] at hs2 Z ⊢
  have P2 := Lib.hid hs2
  have S2 := Lib.hid (Keep.trans S1.out (Since.mono (hp ▸ hk2) Z))
  clear hp hs2 hk2 S1
  go_wp2_with fail
  have HI0 := Lib.hid (show FI w p w2.heap.size CS.new [] 0 (w2.alloc (.map #[] 0)) from ⟨P2.out.keep ((Keep.refl (fun _ => False) w2).alloc' _) id, ⟨_, BMap.made w2, seti_nil⟩, by have := P2.out.lt; omega, S2.out.size, ⟨by decide, by decide⟩, ⟨fun _ => rfl, fun h => by cases h⟩, Keep.trans S2.out (Since.of ((Keep.refl _ w2).alloc' _))⟩)
  obtain ⟨b, hb⟩ : ∃ b, w2.heap.size = b := ⟨_, rfl⟩
  obtain ⟨w3, hw3⟩ : ∃ w3, w2.alloc (.map #[] 0) = w3 := ⟨_, rfl⟩
  rw [hw3, hb] at HI0
  rw [hw3, hb]
  clear hw3 hb
  go_loopw [6] (fun i wr => ∃ k : Nat, k ≤ 30 ∧ i = .int .i64 (k : Int) ∧ ∃ (s : CS) (ks : List Int), Hid (FI w p b s ks k wr)) (fun i _ => 31 - (intOf i).toNat)
  case atStart => exact ⟨0, by omega, rfl, _, _, HI0⟩
  case round =>
    obtain ⟨k, hk, rfl, s, ks, HI⟩ := hrel
    obtain ⟨wo, rfl⟩ : ∃ wo : World, wo = wr := ⟨_, rfl⟩
    by_cases hlt : k < n ∧ k < 30
    · obtain ⟨bf, of, rfl, xf0⟩ := HA.out.at_ k hlt.1
      have hbf := World.block_lt_of_cell? _ _ xf0
      have hlen : l.length = n := by have := HA.out.1; simpa using this
      have hl1 := hlt.1
      have hl2 := hlt.2
      have hxe : (l.map (Value.int .u8)).getD k undef = .int .u8 (l.getD k 0) := by
        simp [List.getD_eq_getElem?_getD, List.getElem?_eq_getElem (show k < l.length by omega)]
      rw [hxe] at xf0
      have hy := HL.out _ (getD_mem (i := k) (x := (0 : Int)) (by omega))
      obtain ⟨y, hye⟩ : ∃ y, l.getD k 0 = y := ⟨_, rfl⟩
      rw [hye] at xf0 hy
      have xf : wo.cell? ⟨bf, of + k, none⟩ = some (.int .u8 y) := cell_kept HI.out.since xf0 (by simp only at hbf ⊢; omega)
      obtain ⟨x, hx⟩ : ∃ x : Int, y % 9 = x := ⟨_, rfl⟩
      have hxl : 0 ≤ x ∧ x < 9 := by omega
      have b1 : decide (k < n) = true := by simpa using hl1
      have b2 : decide (k < 30) = true := by simpa using hl2
      obtain ⟨D, hD1, hD2⟩ := HI.out.map
      obtain ⟨wt, hrun, hm5, hk5⟩ := hD1.store (by omega) x (by omega)
      have hbp := HI.out.ne
      have hst := HI.out.site.keep hk5 (fun e => hbp e.symm)
      have h5 := learn_any hst x (k : Int) (by omega) (by omega)
      have hok2 := learn_ok HI.out.site.ok x (k : Int) (by omega) (by omega)
      obtain ⟨e1, e2, e3, e4, e5⟩ := full_step HI.out.site.ok HI.out.fr x (k : Int) (by omega) (by omega) hok2
      have hfw := learn_few HI.out.few x (k : Int)
      have hSD := seti_put hD2 x
      obtain ⟨ks', hks⟩ : ∃ ks', addI ks x = ks' := ⟨_, rfl⟩
      rw [hks] at e1 e2 e3 e4 e5 hSD
      obtain ⟨⟨ev, s5⟩, hs5⟩ : ∃ a, s.learn x (k : Int) = a := ⟨_, rfl⟩
      rw [hs5] at h5 e1 e2 e3 e4 e5 hfw hok2
      simp only at h5 e1 e2 e3 e4 e5 hfw hok2
      have H5 := Lib.hid h5
      have HE := Lib.hid (And.intro e3 (And.intro e5 hfw))
      have HM := Lib.hid (And.intro hm5 (And.intro hSD hk5))
      have hsl := find_l s5 x
      have hff := find_few hfw x
      obtain ⟨⟨⟨fv, fb⟩, s6⟩, hs6⟩ : ∃ a, s5.find x = a := ⟨_, rfl⟩
      have H6 := fun (W : World) (h : IsSite W p s5) => Lib.hid (hs6 ▸ find_any h x (hfw.mono (by omega)))
      rw [hs6] at e4 hsl hff
      simp only at e4 hsl hff
      have HS := Lib.hid (And.intro hsl hff)
      obtain ⟨m', hm'⟩ : ∃ m', ks'.length = m' := ⟨_, rfl⟩
      rw [hm'] at e1 e2 e4 e5
      have HMM := Lib.hid hm'
      clear hlt hlen hxe hye hbf xf0 h5 e3 e5 hfw hs5 hD1 hD2 hm5 hk5 hst hok2 hSD hks hsl hff hs6 hm'
      go_wp2_with fail
      ((with_reducible refine H5.out.mono ?_); rintro e w5 ⟨rfl, hs5, hk5⟩)
      have P5 := Lib.hid hs5
      have M5 := Lib.hid (HM.out.1.keep hk5 hbp)
      have K5 := Lib.hid (Keep.trans HI.out.since (Keep.trans (since_at HM.out.2.2 HI.out.base) (since_at hk5 Z)))
      have hlen := M5.out.len HM.out.2.1
      rw [HMM.out] at hlen
      clear hs5 hk5 H5 xf hrun
      have H6' := H6 _ P5.out
      by_cases h4 : 4 < m'
      · rw [if_pos h4] at e1
        have hd : decide (4 < m') = true := by simpa using h4
        have hd2 : decide ((4 : Int) < (m' : Int)) = true := by simp; omega
        rw [hd] at e2 e4
        have he4 : fb = false := e4
        subst e1 he4
        have hst : s6.state = 3 := by unfold CS.state; rw [if_pos (HS.out.1.2.trans e2)]
        have HST := Lib.hid (fun (W : World) (h : IsSite W p s6) => hst ▸ state_any h)
        clear hst e2 e4
        go_wp2_with fail
        ((with_reducible refine H6'.out.mono ?_); rintro e w6 ⟨rfl, hs6, hk6⟩)
        have P6 := Lib.hid hs6
        have M6 := Lib.hid (M5.out.keep hk6 hbp)
        have K6 := Lib.hid (Keep.trans K5.out (since_at hk6 Z))
        have hlen := M6.out.len HM.out.2.1
        rw [HMM.out] at hlen
        clear hs6 hk6 H6'
        go_wp2_with fail
        ((with_reducible refine (HST.out _ P6.out).mono ?_); rintro e w7 ⟨rfl, rfl⟩)
        go_wp2_with fail
        ((with_reducible refine (HST.out _ P6.out).mono ?_); rintro e w7 ⟨rfl, rfl⟩)
        go_wp2_with fail
        exact ⟨⟨k + 1, by omega, by go_num, s6, ks', Lib.hid ⟨P6.out, ⟨_, M6.out, HM.out.2.1⟩, hbp, HI.out.base, HS.out.2, HE.out.1.same HS.out.1, K6.out⟩⟩, by simp [intOf]; omega⟩
      · rw [if_neg h4] at e1
        have hd : decide (4 < m') = false := by simpa using h4
        have hd2 : decide ((4 : Int) < (m' : Int)) = false := by simp; omega
        rw [hd] at e2 e4
        have he4 : fb = true := e4
        have hl5 : s6.l.length = m' := by rw [HS.out.1.1, HE.out.2.1 e2, HMM.out]
        subst e1 he4
        obtain ⟨z, hz⟩ : ∃ z : Int, (if 1 < m' then 2 else (m' : Int)) = z := ⟨_, rfl⟩
        have hst : s6.state = z := by unfold CS.state; rw [if_neg (by rw [HS.out.1.2, e2]; decide), hl5]; exact hz
        have hmin : ∀ W, (Builtin.min_ #[3, 3] 3 #[.int .i64 2, .int .i64 (m' : Int)]).run Tryd.prog W = .ok (.int .i64 z) W := by
          intro W
          rw [run_min_int2]
          congr 2
          rw [← hz]
          split <;> split <;> omega
        have hz3 : (z == 3) = false := by
          rw [← hz]
          split
          · rfl
          · have : (m' : Int) ≠ 3 := by omega
            simpa using this
        have hz4 : (z != 3) = true := by simp only [bne, hz3]; rfl
        have hz5 : (z != z) = false := by simp
        have HST := Lib.hid (fun (W : World) (h : IsSite W p s6) => hst ▸ state_any h)
        clear hst e2 e4 hl5 hz
        go_wp2_with fail
        ((with_reducible refine H6'.out.mono ?_); rintro e w6 ⟨rfl, hs6, hk6⟩)
        have P6 := Lib.hid hs6
        have M6 := Lib.hid (M5.out.keep hk6 hbp)
        have K6 := Lib.hid (Keep.trans K5.out (since_at hk6 Z))
        have hlen := M6.out.len HM.out.2.1
        rw [HMM.out] at hlen
        clear hs6 hk6 H6'
        go_wp2_with fail
        ((with_reducible refine (HST.out _ P6.out).mono ?_); rintro e w7 ⟨rfl, rfl⟩)
        go_wp2_with fail
        ((with_reducible refine (HST.out _ P6.out).mono ?_); rintro e w7 ⟨rfl, rfl⟩)
        go_wp2_with fail
        ((with_reducible refine (HST.out _ P6.out).mono ?_); rintro e w7 ⟨rfl, rfl⟩)
        go_wp2_with fail
        exact ⟨⟨k + 1, by omega, by go_num, s6, ks', Lib.hid ⟨P6.out, ⟨_, M6.out, HM.out.2.1⟩, hbp, HI.out.base, HS.out.2, HE.out.1.same HS.out.1, K6.out⟩⟩, by simp [intOf]; omega⟩
    · have hb : (k < n ∧ ¬ k < 30 ∧ decide (k < n) = true ∧ decide (k < 30) = false) ∨ decide (k < n) = false := by
        by_cases h1 : k < n
        · exact .inl ⟨h1, by omega, by simpa using h1, by simp; omega⟩
        · exact .inr (by simpa using h1)
      clear hlt
      have hok := HI.out.site.ok
      have HK := Lib.hid HI.out.since
      have PO := Lib.hid HI.out.site
      cases hfl : s.full with
      | false =>
        have h3 : (s.state == 3) = false := (state_full hok).trans hfl
        have h4 : (s.state != 3) = true := by simp only [bne, h3]; rfl
        obtain ⟨z, hz⟩ : ∃ z, s.state = z := ⟨_, rfl⟩
        have HST := Lib.hid (hz ▸ state_any HI.out.site)
        rw [hz] at h3 h4
        clear hok hfl hz
        rcases hb with ⟨hl1, hl2, b1, b2⟩ | b1
        all_goals (
          go_wp2_with fail
          ((with_reducible refine HST.out.mono ?_); rintro e w7 ⟨rfl, rfl⟩)
          go_wp2_with fail
          go_ret
          exact ⟨rfl, below_since HK.out rfl⟩)
      | true =>
        have hst : s.state = 3 := by unfold CS.state; rw [if_pos hfl]
        have hl0 := hok.full hfl
        have HST := Lib.hid (hst ▸ state_any HI.out.site)
        have HSH := shapes_any HI.out.site
        rw [hl0] at HSH
        have HSH := Lib.hid HSH
        have hfg : s.forget 0 = (false, s) := by unfold CS.forget; rw [hl0]; rfl
        have HF := fun (W : World) (h : IsSite W p s) => Lib.hid (hfg ▸ forget_any h 0)
        have htx : s.text = [102, 117, 108, 108] := by unfold CS.text; rw [if_pos hfl]
        have HT := fun (W : World) (h : IsSite W p s) (hT : TB W) => text_any h hT
        rw [htx, show sb [102, 117, 108, 108] = ⟨#[102, 117, 108, 108]⟩ from rfl] at HT
        clear hok hfl hst hl0 hfg htx
        rcases hb with ⟨hl1, hl2, b1, b2⟩ | b1
        all_goals (
          go_wp2_with fail
          ((with_reducible refine HST.out.mono ?_); rintro e w7 ⟨rfl, rfl⟩)
          go_wp2_with fail
          ((with_reducible refine HSH.out.mono ?_); rintro e w8 ⟨v8, rfl, ho8, hk8⟩)
          obtain ⟨A8, c8, rfl⟩ := own_slice ho8
          have P8 := Lib.hid (PO.out.since hk8 PO.out.lt)
          have K8 := Lib.hid (Keep.trans HK.out (Since.mono hk8 HK.out.size))
          clear ho8 hk8
          go_wp2_with fail
          ((with_reducible refine (HF _ P8.out).out.mono ?_); rintro e w9 ⟨rfl, hs9, hk9⟩)
          have P9 := Lib.hid hs9
          have K9 := Lib.hid (Keep.trans K8.out (since_at hk9 Z))
          clear hs9 hk9
          go_wp2_with fail
          ((with_reducible refine (HT _ P9.out (T.out.since K9.out h0)).mono ?_); rintro e wA ⟨rfl, hkA⟩)
          have KA := Lib.hid (Keep.trans K9.out (Since.mono hkA K9.out.size))
          clear hkA
          go_wp2_with fail
          go_ret
          exact ⟨rfl, below_since KA.out rfl⟩)
set_option maxRecDepth 100000 in
theorem full_lifted (os : Os) (started : os.Started) (H : Type) (enc : TypeId × Value → H) :
    ReturnsInHanded {} Tryd.checked os 5 .any (fun w args => (Rows.cacheFullSpec.pre enc Tryd.prog Tryd.f5 Rows.cacheFullRow.domain false w args ∧ laidMet Tryd.prog Rows.cacheFullRow.laid w) ∧ sizedMet enc Tryd.prog Tryd.f5 (OpenSpec.ofChange Rows.cacheFullSpec) false w args) (Rows.cacheFullSpec.post enc Tryd.prog Tryd.f5 false true false false) := by
  refine law_lift_laid (C := Tryd.checked) (X := fun w _ => laidMet Tryd.prog tabs w) (fun _ _ _ hh h => h.of_heap hh) Tryd.own started (by kernel_rfl) Tryd.func5
    (ChangeSpec.witness_at (enc := enc) (C := Tryd.checked) (os := os) (X := fun w _ => laidMet Tryd.prog tabs w) false (laidWorld os) #[.slice none 0 0] 8 rfl (by kernel_rfl) (by kernel_rfl) (by kernel_rfl) (by kernel_rfl) (by kernel_rfl) (laidWorld_met os _))
    Tryd.laidOut (by kernel_rfl) rfl rfl Tryd.underlying4 ?_ ?_
  · intro ds hl
    match ds, hl with
    | [d1], _ => exact ⟨rfl, rfl, rfl⟩
  · intro W base args ds p hval0 hA0 hlt hsz0 hL
    have hval : ∀ (j : Nat) t v, Tryd.f5.params[j]? = some t → args[j]? = some v → Value.okWide Tryd.prog W .any base t v := hval0
    have hA : DataW.TrodAll enc Tryd.prog W 0 (fun _ => true) true Tryd.f5.params.toList args.toList ds p := hA0
    have hsz : (DataW.weightsEach Tryd.prog Tryd.f5.params.toList ds).all (· ≤ reachBytes) = true := hsz0
    rw [Tryd.params5] at hA hval hsz
    clear hA0 hval0 hsz0
    obtain ⟨v0, d0, rfl, rfl, h0⟩ := trodAll_one hA
    have hlt0 : ∀ x ∈ p, x.block < W.heap.size := hlt
    obtain ⟨Al, nl, cl, l, rfl, il, zl, rl, wl⟩ := open_u8s_at Tryd.underlying40 Tryd.underlying5 (by kernel_rfl) (by kernel_rfl) (hval 0 40 v0 rfl rfl) h0 hlt0 (fun el sp hd => sized_slice hsz (j := 0) rfl (by simp [hd]) Tryd.underlying40)
    exact full_walk Al nl cl l W il (fun x hx => bd_u8 (wl x hx)) zl rl (tb_of_laid hL)

/-- The row. -/
theorem full_row : Rows.CacheFullSaid :=
  OpenClaim.holds_of_wide 5 Tryd.f5 rfl rfl rfl rfl rfl rfl rfl ⟨rfl, rfl, rfl, rfl, rfl⟩ rfl rfl rfl rfl rfl (by kernel_rfl) Tryd.func5 (by kernel_rfl)
    (of_decide_eq_true (by kernel_rfl)) (by unfold Func.isWrapper; first | (rw [if_pos (by decide +kernel)]; kernel_rfl) | (rw [if_neg (by decide +kernel)]; exact ⟨rfl, rfl⟩))
    (fun os started H enc _ => full_lifted os started H enc)
/-- The statement: the tied card. -/
theorem full_holds : Rows.CacheFullCardSaid :=
  Claim7.holds_tied_plain_at .later [] [.data, .data, .data] true (true, "dac5fa98be8ba01293bcc018d0cdd3b90fbf6db38275f6b49ccd14927eae94f6") false
    full_row (fun _ h => by cases h) (by kernel_rfl) (fun _ h => by cases h) cacheFull_row_tie rfl ⟨rfl, rfl⟩ (by kernel_rfl) rfl
    (fun f fn hf hfn => by
      obtain rfl : f = 5 := Option.some.inj ((show Tryd.prog.funcNamed "facsimile/facsimilelaw12.CacheFull" = some 5 by kernel_rfl).symm.trans hf) |>.symm
      obtain rfl : fn = Tryd.f5 := (Option.some.inj (Tryd.func5.symm.trans hfn)).symm
      exact ⟨by kernel_rfl, fun j t ht => by
        have h := List.all_eq_true.1 (show (Tryd.f5.params.toList.all fun t => !Tryd.prog.wantsStandIn t) = true by kernel_rfl) t (List.mem_of_getElem? (by simpa using ht))
        exact (show Tryd.prog.wantsStandIn t = false by simpa using h)⟩)
    (by kernel_rfl)
#print axioms full_holds
end Go.Proofs.YtdfmmgepapiamaaDoor
