/- CacheLast: Find returns what was learned last for a shape, as long as it was not forgotten, and the site is not full: for every list of calls the law returns true. -/
import Derived.Test.YtdfmmgepapiamaaDoorS10
import Derived.Test.YtdfmmgepapiamaaDoorS11
import Derived.Test.YtdfmmgepapiamaaDoorKLT
import Derived.Test.YtdfmmgepapiamaaDoorKA3
namespace Go.Proofs.YtdfmmgepapiamaaDoor
open Go.ChangeShapes Go.WideShapes Go.ChangeAt Go.RowKit
set_option linter.unusedVariables false

def IMap (w : World) (b n : Nat) (D : DataW Unit) : Prop := w.ownsMap Tryd.prog 3 (plainElem Tryd.prog 3) b n D
theorem IMap.keep {w w' : World} {b n : Nat} {D : DataW Unit} {F : Nat → Prop} (h : IMap w b n D) (hk : Keep F w w') (hF : ¬ F b) : IMap w' b n D := by
  have hl := World.ownsMap.lt h
  obtain ⟨es, cl, hb, r⟩ := h
  exact ⟨es, cl, (hk.block b hl hF).trans hb, r⟩
theorem IMap.made (w : World) : IMap (w.alloc (.map #[] 0)) w.heap.size 0 (.map []) := World.ownsMap_made w _ _ _
theorem zeroInt (w : World) : (zeroValue 3).run Tryd.prog w = .ok (.int .i64 0) w := by kernel_rfl
theorem I64.wf {x : Int} (h : -9223372036854775808 ≤ x ∧ x ≤ 9223372036854775807) : (Lit.int .i64 x).wf = true := by
  have e1 : IntKind.i64.min = -9223372036854775808 := rfl
  have e2 : IntKind.i64.max = 9223372036854775807 := rfl
  simp [Lit.wf, e1, e2]
  omega
theorem IMap.look {w : World} {b n : Nat} {D : DataW Unit} (h : IMap w b n D) (x : Int) (hx : -9223372036854775808 ≤ x ∧ x ≤ 9223372036854775807) {l : List (Int × Int)} (hm : MI D l) :
    (Instr.lookup 32 (.map (some b)) (.int .i64 x) true).run Tryd.prog w = .ok (.tuple #[.int .i64 (ans l x).1, .bool (ans l x).2]) w := by
  obtain ⟨v, ps, hrun, hv⟩ := World.ownsMap.look_ok h (Maps.int_keyed Tryd.underlying3) Tryd.underlying32 (zeroInt w) (plainElem_int Tryd.underlying3 (by decide)) (Maps.keyOf_int_mk Tryd.underlying3 (I64.wf hx))
  obtain ⟨c, rfl, hc, _⟩ := plainElem_int_inv Tryd.underlying3 hv
  rw [hm.2.2.1 x] at hc
  rw [hm.2.1 x] at hrun
  have e : (ans l x).1 = c := by
    have h1 := congrArg Prod.fst hc
    injection h1 with h1
    injection h1
  rw [e]
  exact hrun
theorem IMap.len {w : World} {b n : Nat} {D : DataW Unit} (h : IMap w b n D) {l : List (Int × Int)} (hm : MI D l) (ty : TypeId) : (Builtin.len_ #[32] ty #[.map (some b)]).run Tryd.prog w = .ok (.int .i64 (l.length : Int)) w := by
  have := World.ownsMap.len h Tryd.underlying32 ty
  rw [hm.2.2.2] at this
  exact this
theorem IMap.store {w : World} {b n : Nat} {D : DataW Unit} (h : IMap w b n D) (hn : n ≤ 1000) (x y : Int) (hx : -9223372036854775808 ≤ x ∧ x ≤ 9223372036854775807) (hy : -9223372036854775808 ≤ y ∧ y ≤ 9223372036854775807) :
    ∃ w', (Instr.mapUpdate 32 (.map (some b)) (.int .i64 x) (.int .i64 y)).run Tryd.prog w = .ok () w' ∧ IMap w' b (n + 1) (D.put (IKey x) (.lit (.int .i64 y))) ∧ Keep (fun k => k = b) w w' := by
  obtain ⟨w', hrun, h1, h2⟩ := World.ownsMap.update h (Maps.int_keyed Tryd.underlying3) Tryd.underlying32 (by unfold maxLen; omega) (Maps.keyOf_int_mk Tryd.underlying3 (I64.wf hx)) (plainElem_int Tryd.underlying3 (I64.wf hy))
  exact ⟨w', hrun, h1, (Keep.refl _ w).grown h2 (fun k e => .inl (Option.some.inj e).symm)⟩
theorem IMap.drop {w : World} {b n : Nat} {D : DataW Unit} (h : IMap w b n D) (x : Int) (hx : -9223372036854775808 ≤ x ∧ x ≤ 9223372036854775807) (ty : TypeId) :
    ∃ w', (Builtin.delete_ #[32, 3] ty #[.map (some b), .int .i64 x]).run Tryd.prog w = .ok (.tuple #[]) w' ∧ IMap w' b n (D.del (IKey x)) ∧ Keep (fun k => k = b) w w' := by
  obtain ⟨w', hrun, h1, h2⟩ := World.ownsMap.drop h (Maps.int_keyed Tryd.underlying3) Tryd.underlying32 (Maps.keyOf_int_mk Tryd.underlying3 (I64.wf hx)) ty
  exact ⟨w', hrun, h1, (Keep.refl _ w).grown h2.grown (fun k e => .inl (Option.some.inj e).symm)⟩

def LI (w : World) (p b : Nat) (s : CS) (k : Nat) (wr : World) : Prop :=
  IsSite wr p s ∧ (∃ D, IMap wr b k D ∧ MI D s.l) ∧ b ≠ p ∧ w.heap.size ≤ b ∧ s.few (k : Int) ∧ Since w.heap.size w wr
/-- Behind the switch of a round. -/
structure LT (w : World) (p b x : Nat) (ay az : Int) (s : CS) (k : Nat) (wr : World) : Prop where
  site : IsSite wr p s
  map : ∃ D, IMap wr b (k + 1) D ∧ (s.full = false → MI D s.l)
  ne : b ≠ p
  base : w.heap.size ≤ b
  few : s.few (k : Int)
  since : Since w.heap.size w wr
  box : BoxC x ay az wr
  far : x ≠ p ∧ x ≠ b ∧ x < wr.heap.size
set_option maxHeartbeats 8000000 in
set_option maxRecDepth 100000 in
theorem last_walk (A : Option Addr) (n c : Nat) (l : List Act') (w : World) (hA : ActsAt w A n l) (hT : TB w) :
    Calls Tryd.prog 4 #[.slice A n c] w fun e w' => e = .returned (.bool true) ∧ Below w.heap.size w w' := by
  have hnl := hA.2.1
  have HA := Lib.hid hA
  have T := Lib.hid hT
  have h0 := hT.pos
  clear hT hA
  have hmm := @run_makeMap Tryd.prog
  go_enter Tryd.func4, Tryd.ntmps4
  go_wp2_with fail
  ((with_reducible refine (sanity_any w T.out).mono ?_); rintro e w1 ⟨rfl, hk1⟩)
  have S1 := Lib.hid hk1; clear hk1
  go_wp2_with fail
  ((with_reducible refine (new_site w1).mono ?_); rintro e w2 ⟨rfl, hs2, hk2⟩)
  have Z := S1.out.size
  obtain ⟨p, hp⟩ : ∃ p, w1.heap.size = p := ⟨_, rfl⟩
  rw [hp] at hs2 Z ⊢
  have P2 := Lib.hid hs2
  have S2 := Lib.hid (Keep.trans S1.out (Since.mono (hp ▸ hk2) Z))
  clear hp hs2 hk2 S1
  go_wp2_with fail
  have HI0 := Lib.hid (show LI w p w2.heap.size CS.new 0 (w2.alloc (.map #[] 0)) from ⟨P2.out.keep ((Keep.refl (fun _ => False) w2).alloc' _) id, ⟨_, IMap.made w2, mi_nil⟩, by have := P2.out.lt; omega, S2.out.size, ⟨by decide, by decide⟩, Keep.trans S2.out (Since.of ((Keep.refl _ w2).alloc' _))⟩)
  go_loopw [5, 6] (fun m i wr => ∃ k : Nat, k ≤ 60 ∧ i = .int .i64 (k : Int) ∧ ∃ (b : Nat) (s : CS), m = .map (some b) ∧ Hid (LI w p b s k wr)) (fun _ i _ => 61 - (intOf i).toNat)
  case atStart => exact ⟨0, by omega, rfl, _, _, rfl, HI0⟩
  case round =>
    obtain ⟨k, hk, rfl, b, s, rfl, HI⟩ := hrel
    obtain ⟨wo, rfl⟩ : ∃ wo : World, wo = wr := ⟨_, rfl⟩
    by_cases hlt : k < n ∧ k < 60
    · obtain ⟨gb, off, rfl, a, hae, ha, x0, x1, x2⟩ := (HA.out.since HI.out.2.2.2.2.2 (Nat.le_refl _)).at_ k hlt.1
      obtain ⟨ax, ay, az⟩ := a
      have hay := ha.y
      have haz := ha.z
      obtain ⟨r, q, e1, r1, r2, e2, hq⟩ := mod4_cases ax ha.x
      clear hae ha
      simp only at x0 x1 x2 hay haz e1
      have hl1 := hlt.1
      have hl2 := hlt.2
      have b1 : decide (k < n) = true := by simpa using hl1
      have b2 : decide (k < 60) = true := by simpa using hl2
      have hbl : b < wo.heap.size := by
        obtain ⟨D, h, _⟩ := HI.out.2.1
        exact World.ownsMap.lt h
      have hpl := HI.out.1.lt
      have LA := Lib.hid (show LT w p b wo.heap.size ay az s k (wo.alloc (.cells #[.int .i64 ax, .int .i64 ay, .int .i64 az] 34)) from
        ⟨HI.out.1.keep ((Keep.refl (fun _ => False) wo).alloc' _) id, (let ⟨D, h1, h2⟩ := HI.out.2.1; ⟨D, World.ownsMap.mono (h1.keep ((Keep.refl (fun _ => False) wo).alloc' _) id) (by omega), fun _ => h2⟩), HI.out.2.2.1, HI.out.2.2.2.1, HI.out.2.2.2.2.1,
          Keep.trans HI.out.2.2.2.2.2 (Since.of ((Keep.refl _ wo).alloc' _)), ⟨blk_cell (heap_alloc_new wo _) 1, blk_cell (heap_alloc_new wo _) 2⟩, by omega, by omega, by simp⟩)
      obtain ⟨D, hD1, hD2⟩ := HI.out.2.1
      have HD := Lib.hid (And.intro hD1 hD2)
      clear hlt hD1 hD2
      rcases hq with rfl | rfl | rfl | rfl
      · go_wp2_with fail
        obtain ⟨wa, hwa⟩ : ∃ wa, wo.alloc (.cells #[.int .i64 ax, .int .i64 ay, .int .i64 az] 34) = wa := ⟨_, rfl⟩
        rw [hwa] at LA ⊢
        have HDA := Lib.hid (show IMap wa b k D from hwa ▸ HD.out.1.keep ((Keep.refl (fun _ => False) wo).alloc' _) id)
        clear hwa x0 x1 x2
        have h5 := learn_any LA.out.site ay az hay haz
        have hfw := learn_few LA.out.few ay az
        have hno := learn_no LA.out.site.ok ay az
        have hml := mi_learn HD.out.2 ay az
        obtain ⟨e5, s1, hls⟩ : ∃ e5 s1, s.learn ay az = (e5, s1) := ⟨_, _, rfl⟩
        rw [hls] at h5 hfw hno hml
        have H5 := Lib.hid h5
        have HL := Lib.hid (And.intro hfw (And.intro hno hml))
        clear h5 hfw hno hml hls
        by_cases he : e5 = 0
        · subst he
          ((with_reducible refine H5.out.mono ?_); rintro e w5 ⟨rfl, hs5, hk5⟩)
          obtain ⟨wt, hrun, hm5, hk6⟩ := (HDA.out.keep hk5 LA.out.ne).store (by omega) ay az hay haz
          have B5 := Lib.hid (LA.out.box.keep hk5 LA.out.far.1)
          have LB := Lib.hid (show LT w p b wo.heap.size ay az s1 k wt from
            ⟨hs5.keep hk6 (fun e => LA.out.ne e.symm), ⟨_, hm5, fun _ => HL.out.2.2 rfl⟩, LA.out.ne, LA.out.base, HL.out.1, Keep.trans LA.out.since (Keep.trans (since_at hk5 Z) (since_at hk6 LA.out.base)), B5.out.keep hk6 LA.out.far.2.1, LA.out.far.1, LA.out.far.2.1, by have := LA.out.far.2.2; have := hk5.size; have := hk6.size; omega⟩)
          obtain ⟨d1, d2⟩ := B5.out
          clear hs5 hk5 hm5 hk6 H5
          go_wp2_with fail
          clear hrun d1 d2
          have hfs := LB.out.few
          have hok := LB.out.site.ok
          have hst := state_any LB.out.site
          have hsf := state_full hok
          have TO := Lib.hid (And.intro LB.out.far LB.out.box)
          cases hfl : s1.full with
          | true =>
            rw [hfl] at hsf
            have hl0 := hok.full hfl
            have hans := find_ans s1 ay
            rw [hl0] at hans
            obtain ⟨s2, hs2⟩ : ∃ s2, s1.find ay = ((0, false), s2) := ⟨(s1.find ay).2, Prod.ext hans rfl⟩
            have hfw := find_few hfs ay
            have hsl := (find_l s1 ay).1
            rw [hs2] at hfw hsl
            rw [hl0] at hsl
            have HX := Lib.hid (And.intro hfw hsl)
            have HST := Lib.hid hst
            have FA := fun (W : World) (h : IsSite W p s1) => Lib.hid (hs2 ▸ find_any h ay (hfs.mono (by omega)))
            obtain ⟨st, hst2⟩ : ∃ st, s1.state = st := ⟨_, rfl⟩
            rw [hst2] at hsf HST
            clear hfs hok hst hfl hl0 hans hs2 hfw hsl hst2
            go_wp2_with fail
            ((with_reducible refine HST.out.mono ?_); rintro e wt2 ⟨rfl, rfl⟩)
            clear HST
            have d1 := (LB.out.box.keep ((Keep.refl (fun _ => False) wt).alloc' (.map #[] 0)) id).1
            go_wp2_with fail
            clear d1
            have km := Lib.hid (show Keep (fun _ => False) wt (wt.alloc (.map #[] 0)) from (Keep.refl _ wt).alloc' _)
            have IM := Lib.hid (IMap.made wt)
            obtain ⟨wu, hwu⟩ : ∃ wu, wt.alloc (.map #[] 0) = wu := ⟨_, rfl⟩
            rw [hwu] at km IM ⊢
            have PU := Lib.hid (LB.out.site.keep km.out id)
            have BU := Lib.hid (LB.out.box.keep km.out id)
            have SU := Lib.hid (Keep.trans LB.out.since (Since.of km.out))
            have hb2p : wt.heap.size ≠ p := by have := LB.out.site.lt; omega
            have hb2b : w.heap.size ≤ wt.heap.size := LB.out.since.size
            have hxf := LB.out.far.1
            have hxf2 : wo.heap.size ≠ wt.heap.size := by have := LB.out.far.2.2; omega
            obtain ⟨b2, hb2⟩ : ∃ b2, wt.heap.size = b2 := ⟨_, rfl⟩
            rw [hb2] at IM hb2p hb2b hxf2 ⊢
            clear hwu hb2
            obtain ⟨d1, d2⟩ := BU.out
            ((with_reducible refine (FA _ PU.out).out.mono ?_); rintro e wv ⟨rfl, hs5, hk5⟩)
            have PV := Lib.hid hs5
            have MV := Lib.hid (IM.out.keep hk5 hb2p)
            have BV := Lib.hid (BU.out.keep hk5 hxf)
            have SV := Lib.hid (Keep.trans SU.out (since_at hk5 Z))
            clear hs5 hk5 d1 d2 PU BU SU IM km
            obtain ⟨d1, d2⟩ := BV.out
            have hlk := MV.out.look ay hay mi_nil
            rw [ans_nil] at hlk
            go_wp2_with fail
            ((with_reducible refine (shapes_any PV.out).mono ?_); rintro e wx ⟨u6, rfl, ho6, hk6⟩)
            have PX := Lib.hid (PV.out.since hk6 PV.out.lt)
            have MX := Lib.hid (MV.out.keep hk6 (by have := World.ownsMap.lt MV.out; omega))
            have SX := Lib.hid (Keep.trans SV.out (Since.mono hk6 SV.out.size))
            rw [HX.out.2] at ho6
            obtain ⟨A6, c6, rfl⟩ := own_slice ho6
            have hlen := MX.out.len mi_nil
            clear ho6 hk6 hlk d1 d2 PV MV BV SV
            go_wp2_with fail
            exact ⟨⟨k + 1, by omega, by go_num, b2, s2, rfl, Lib.hid ⟨PX.out, ⟨_, World.ownsMap.mono MX.out (by omega), by rw [HX.out.2]; exact mi_nil⟩, hb2p, hb2b, HX.out.1.mono (by omega), SX.out⟩⟩, by simp [intOf]; omega⟩
          | false =>
            rw [hfl] at hsf
            obtain ⟨D2, hD3, hD4⟩ := LB.out.map
            have HD2 := Lib.hid (And.intro hD3 (hD4 hfl))
            have hans := find_ans s1 ay
            obtain ⟨⟨fv, fb⟩, hfv⟩ : ∃ f, ans s1.l ay = f := ⟨_, rfl⟩
            rw [hfv] at hans
            obtain ⟨s2, hs2⟩ : ∃ s2, s1.find ay = ((fv, fb), s2) := ⟨(s1.find ay).2, Prod.ext hans rfl⟩
            have hfw := find_few hfs ay
            have hsl := (find_l s1 ay).1
            rw [hs2] at hfw hsl
            have HX := Lib.hid (And.intro hfw hsl)
            have HFV := Lib.hid hfv
            have HST := Lib.hid hst
            have hl4 := hok.len
            have FA := fun (W : World) (h : IsSite W p s1) => Lib.hid (hs2 ▸ find_any h ay (hfs.mono (by omega)))
            obtain ⟨st, hst2⟩ : ∃ st, s1.state = st := ⟨_, rfl⟩
            rw [hst2] at hsf HST
            obtain ⟨len, hlen0⟩ : ∃ len, s1.l.length = len := ⟨_, rfl⟩
            rw [hlen0] at hl4
            have HLEN := Lib.hid hlen0
            have hl5 : decide ((4 : Int) < (len : Int)) = false := by simp; omega
            have hl6 : decide (4 < len) = false := by simp; omega
            have hf1 : (fv != fv) = false := by simp
            have hf2 : (fb != fb) = false := by simp
            clear hfs hok hst hfl hans hs2 hfw hsl hst2 hD3 hD4 hfv hlen0
            go_wp2_with fail
            ((with_reducible refine HST.out.mono ?_); rintro e wt2 ⟨rfl, rfl⟩)
            clear HST
            have hxf := LB.out.far.1
            have hbp := LB.out.ne
            obtain ⟨d1, d2⟩ := LB.out.box
            go_wp2_with fail
            ((with_reducible refine (FA _ LB.out.site).out.mono ?_); rintro e wv ⟨rfl, hs5, hk5⟩)
            have PV := Lib.hid hs5
            have MV := Lib.hid (HD2.out.1.keep hk5 hbp)
            have BV := Lib.hid (LB.out.box.keep hk5 hxf)
            have SV := Lib.hid (Keep.trans LB.out.since (since_at hk5 Z))
            clear hs5 hk5 d1 d2
            obtain ⟨d1, d2⟩ := BV.out
            have hlk := MV.out.look ay hay HD2.out.2
            rw [HFV.out] at hlk
            go_wp2_with fail
            ((with_reducible refine (shapes_any PV.out).mono ?_); rintro e wx ⟨u6, rfl, ho6, hk6⟩)
            have PX := Lib.hid (PV.out.since hk6 PV.out.lt)
            have MX := Lib.hid (MV.out.keep hk6 (by have := World.ownsMap.lt MV.out; omega))
            have SX := Lib.hid (Keep.trans SV.out (Since.mono hk6 SV.out.size))
            rw [HX.out.2, HLEN.out] at ho6
            obtain ⟨A6, c6, rfl⟩ := own_slice ho6
            have hlen := MX.out.len HD2.out.2
            rw [HLEN.out] at hlen
            clear ho6 hk6 hlk d1 d2 PV MV BV SV
            go_wp2_with fail
            exact ⟨⟨k + 1, by omega, by go_num, b, s2, rfl, Lib.hid ⟨PX.out, ⟨_, MX.out, by rw [HX.out.2]; exact HD2.out.2⟩, hbp, LB.out.base, HX.out.1.mono (by omega), SX.out⟩⟩, by simp [intOf]; omega⟩
        · have hb0 : (e5 == 0) = false := by simpa using he
          have hno2 := HL.out.2.1 he
          ((with_reducible refine H5.out.mono ?_); rintro e wt ⟨rfl, hs5, hk5⟩)
          have LB := Lib.hid (show LT w p b wo.heap.size ay az s1 k wt from
            ⟨hs5, ⟨_, World.ownsMap.mono (HDA.out.keep hk5 LA.out.ne) (by omega), fun hf => by
              rcases hno2 with h | h
              · rw [h]; exact HD.out.2
              · rw [h] at hf; cases hf⟩, LA.out.ne, LA.out.base, HL.out.1, Keep.trans LA.out.since (since_at hk5 Z), LA.out.box.keep hk5 LA.out.far.1, LA.out.far.1, LA.out.far.2.1, by have := LA.out.far.2.2; have := hk5.size; omega⟩)
          clear hs5 hk5 H5 hno2 he
          have hfs := LB.out.few
          have hok := LB.out.site.ok
          have hst := state_any LB.out.site
          have hsf := state_full hok
          have TO := Lib.hid (And.intro LB.out.far LB.out.box)
          cases hfl : s1.full with
          | true =>
            rw [hfl] at hsf
            have hl0 := hok.full hfl
            have hans := find_ans s1 ay
            rw [hl0] at hans
            obtain ⟨s2, hs2⟩ : ∃ s2, s1.find ay = ((0, false), s2) := ⟨(s1.find ay).2, Prod.ext hans rfl⟩
            have hfw := find_few hfs ay
            have hsl := (find_l s1 ay).1
            rw [hs2] at hfw hsl
            rw [hl0] at hsl
            have HX := Lib.hid (And.intro hfw hsl)
            have HST := Lib.hid hst
            have FA := fun (W : World) (h : IsSite W p s1) => Lib.hid (hs2 ▸ find_any h ay (hfs.mono (by omega)))
            obtain ⟨st, hst2⟩ : ∃ st, s1.state = st := ⟨_, rfl⟩
            rw [hst2] at hsf HST
            clear hfs hok hst hfl hl0 hans hs2 hfw hsl hst2
            go_wp2_with fail
            ((with_reducible refine HST.out.mono ?_); rintro e wt2 ⟨rfl, rfl⟩)
            clear HST
            have d1 := (LB.out.box.keep ((Keep.refl (fun _ => False) wt).alloc' (.map #[] 0)) id).1
            go_wp2_with fail
            clear d1
            have km := Lib.hid (show Keep (fun _ => False) wt (wt.alloc (.map #[] 0)) from (Keep.refl _ wt).alloc' _)
            have IM := Lib.hid (IMap.made wt)
            obtain ⟨wu, hwu⟩ : ∃ wu, wt.alloc (.map #[] 0) = wu := ⟨_, rfl⟩
            rw [hwu] at km IM ⊢
            have PU := Lib.hid (LB.out.site.keep km.out id)
            have BU := Lib.hid (LB.out.box.keep km.out id)
            have SU := Lib.hid (Keep.trans LB.out.since (Since.of km.out))
            have hb2p : wt.heap.size ≠ p := by have := LB.out.site.lt; omega
            have hb2b : w.heap.size ≤ wt.heap.size := LB.out.since.size
            have hxf := LB.out.far.1
            have hxf2 : wo.heap.size ≠ wt.heap.size := by have := LB.out.far.2.2; omega
            obtain ⟨b2, hb2⟩ : ∃ b2, wt.heap.size = b2 := ⟨_, rfl⟩
            rw [hb2] at IM hb2p hb2b hxf2 ⊢
            clear hwu hb2
            obtain ⟨d1, d2⟩ := BU.out
            ((with_reducible refine (FA _ PU.out).out.mono ?_); rintro e wv ⟨rfl, hs5, hk5⟩)
            have PV := Lib.hid hs5
            have MV := Lib.hid (IM.out.keep hk5 hb2p)
            have BV := Lib.hid (BU.out.keep hk5 hxf)
            have SV := Lib.hid (Keep.trans SU.out (since_at hk5 Z))
            clear hs5 hk5 d1 d2 PU BU SU IM km
            obtain ⟨d1, d2⟩ := BV.out
            have hlk := MV.out.look ay hay mi_nil
            rw [ans_nil] at hlk
            go_wp2_with fail
            ((with_reducible refine (shapes_any PV.out).mono ?_); rintro e wx ⟨u6, rfl, ho6, hk6⟩)
            have PX := Lib.hid (PV.out.since hk6 PV.out.lt)
            have MX := Lib.hid (MV.out.keep hk6 (by have := World.ownsMap.lt MV.out; omega))
            have SX := Lib.hid (Keep.trans SV.out (Since.mono hk6 SV.out.size))
            rw [HX.out.2] at ho6
            obtain ⟨A6, c6, rfl⟩ := own_slice ho6
            have hlen := MX.out.len mi_nil
            clear ho6 hk6 hlk d1 d2 PV MV BV SV
            go_wp2_with fail
            exact ⟨⟨k + 1, by omega, by go_num, b2, s2, rfl, Lib.hid ⟨PX.out, ⟨_, World.ownsMap.mono MX.out (by omega), by rw [HX.out.2]; exact mi_nil⟩, hb2p, hb2b, HX.out.1.mono (by omega), SX.out⟩⟩, by simp [intOf]; omega⟩
          | false =>
            rw [hfl] at hsf
            obtain ⟨D2, hD3, hD4⟩ := LB.out.map
            have HD2 := Lib.hid (And.intro hD3 (hD4 hfl))
            have hans := find_ans s1 ay
            obtain ⟨⟨fv, fb⟩, hfv⟩ : ∃ f, ans s1.l ay = f := ⟨_, rfl⟩
            rw [hfv] at hans
            obtain ⟨s2, hs2⟩ : ∃ s2, s1.find ay = ((fv, fb), s2) := ⟨(s1.find ay).2, Prod.ext hans rfl⟩
            have hfw := find_few hfs ay
            have hsl := (find_l s1 ay).1
            rw [hs2] at hfw hsl
            have HX := Lib.hid (And.intro hfw hsl)
            have HFV := Lib.hid hfv
            have HST := Lib.hid hst
            have hl4 := hok.len
            have FA := fun (W : World) (h : IsSite W p s1) => Lib.hid (hs2 ▸ find_any h ay (hfs.mono (by omega)))
            obtain ⟨st, hst2⟩ : ∃ st, s1.state = st := ⟨_, rfl⟩
            rw [hst2] at hsf HST
            obtain ⟨len, hlen0⟩ : ∃ len, s1.l.length = len := ⟨_, rfl⟩
            rw [hlen0] at hl4
            have HLEN := Lib.hid hlen0
            have hl5 : decide ((4 : Int) < (len : Int)) = false := by simp; omega
            have hl6 : decide (4 < len) = false := by simp; omega
            have hf1 : (fv != fv) = false := by simp
            have hf2 : (fb != fb) = false := by simp
            clear hfs hok hst hfl hans hs2 hfw hsl hst2 hD3 hD4 hfv hlen0
            go_wp2_with fail
            ((with_reducible refine HST.out.mono ?_); rintro e wt2 ⟨rfl, rfl⟩)
            clear HST
            have hxf := LB.out.far.1
            have hbp := LB.out.ne
            obtain ⟨d1, d2⟩ := LB.out.box
            go_wp2_with fail
            ((with_reducible refine (FA _ LB.out.site).out.mono ?_); rintro e wv ⟨rfl, hs5, hk5⟩)
            have PV := Lib.hid hs5
            have MV := Lib.hid (HD2.out.1.keep hk5 hbp)
            have BV := Lib.hid (LB.out.box.keep hk5 hxf)
            have SV := Lib.hid (Keep.trans LB.out.since (since_at hk5 Z))
            clear hs5 hk5 d1 d2
            obtain ⟨d1, d2⟩ := BV.out
            have hlk := MV.out.look ay hay HD2.out.2
            rw [HFV.out] at hlk
            go_wp2_with fail
            ((with_reducible refine (shapes_any PV.out).mono ?_); rintro e wx ⟨u6, rfl, ho6, hk6⟩)
            have PX := Lib.hid (PV.out.since hk6 PV.out.lt)
            have MX := Lib.hid (MV.out.keep hk6 (by have := World.ownsMap.lt MV.out; omega))
            have SX := Lib.hid (Keep.trans SV.out (Since.mono hk6 SV.out.size))
            rw [HX.out.2, HLEN.out] at ho6
            obtain ⟨A6, c6, rfl⟩ := own_slice ho6
            have hlen := MX.out.len HD2.out.2
            rw [HLEN.out] at hlen
            clear ho6 hk6 hlk d1 d2 PV MV BV SV
            go_wp2_with fail
            exact ⟨⟨k + 1, by omega, by go_num, b, s2, rfl, Lib.hid ⟨PX.out, ⟨_, MX.out, by rw [HX.out.2]; exact HD2.out.2⟩, hbp, LB.out.base, HX.out.1.mono (by omega), SX.out⟩⟩, by simp [intOf]; omega⟩
      · go_wp2_with fail
        obtain ⟨wa, hwa⟩ : ∃ wa, wo.alloc (.cells #[.int .i64 ax, .int .i64 ay, .int .i64 az] 34) = wa := ⟨_, rfl⟩
        rw [hwa] at LA ⊢
        have HDA := Lib.hid (show IMap wa b k D from hwa ▸ HD.out.1.keep ((Keep.refl (fun _ => False) wo).alloc' _) id)
        clear hwa x0 x1 x2
        have hlk0 := HDA.out.look ay hay HD.out.2
        have h5 := forget_any LA.out.site ay
        have hft := forget_tells s ay
        have hmf := mi_forget HD.out.2 LA.out.site.ok ay
        have hfw := forget_few LA.out.few ay
        obtain ⟨⟨fv0, fb0⟩, hfv0⟩ : ∃ f, ans s.l ay = f := ⟨_, rfl⟩
        rw [hfv0] at hlk0 hft
        obtain ⟨s1, hls⟩ : ∃ s1, s.forget ay = (fb0, s1) := ⟨(s.forget ay).2, Prod.ext hft rfl⟩
        rw [hls] at h5 hfw hmf
        have H5 := Lib.hid h5
        have HL := Lib.hid (And.intro hfw hmf)
        have hf3 : (fb0 != fb0) = false := by simp
        obtain ⟨d1, d2⟩ := LA.out.box
        clear h5 hfw hmf hls hft hfv0
        go_wp2_with fail
        ((with_reducible refine H5.out.mono ?_); rintro e w5 ⟨rfl, hs5, hk5⟩)
        have hdr := fun ty => (HDA.out.keep hk5 LA.out.ne).drop ay hay ty
        obtain ⟨wt, hrun, hm5, hk6⟩ := hdr 0
        have B5 := Lib.hid (LA.out.box.keep hk5 LA.out.far.1)
        have LB := Lib.hid (show LT w p b wo.heap.size ay az s1 k wt from
          ⟨hs5.keep hk6 (fun e => LA.out.ne e.symm), ⟨_, World.ownsMap.mono hm5 (by omega), fun _ => HL.out.2⟩, LA.out.ne, LA.out.base, HL.out.1, Keep.trans LA.out.since (Keep.trans (since_at hk5 Z) (since_at hk6 LA.out.base)), B5.out.keep hk6 LA.out.far.2.1, LA.out.far.1, LA.out.far.2.1, by have := LA.out.far.2.2; have := hk5.size; have := hk6.size; omega⟩)
        clear d1 d2 hlk0
        obtain ⟨d1, d2⟩ := B5.out
        clear hs5 hk5 hm5 hk6 H5 hdr
        go_wp2_with fail
        clear hrun d1 d2
        have hfs := LB.out.few
        have hok := LB.out.site.ok
        have hst := state_any LB.out.site
        have hsf := state_full hok
        have TO := Lib.hid (And.intro LB.out.far LB.out.box)
        cases hfl : s1.full with
        | true =>
          rw [hfl] at hsf
          have hl0 := hok.full hfl
          have hans := find_ans s1 ay
          rw [hl0] at hans
          obtain ⟨s2, hs2⟩ : ∃ s2, s1.find ay = ((0, false), s2) := ⟨(s1.find ay).2, Prod.ext hans rfl⟩
          have hfw := find_few hfs ay
          have hsl := (find_l s1 ay).1
          rw [hs2] at hfw hsl
          rw [hl0] at hsl
          have HX := Lib.hid (And.intro hfw hsl)
          have HST := Lib.hid hst
          have FA := fun (W : World) (h : IsSite W p s1) => Lib.hid (hs2 ▸ find_any h ay (hfs.mono (by omega)))
          obtain ⟨st, hst2⟩ : ∃ st, s1.state = st := ⟨_, rfl⟩
          rw [hst2] at hsf HST
          clear hfs hok hst hfl hl0 hans hs2 hfw hsl hst2
          go_wp2_with fail
          ((with_reducible refine HST.out.mono ?_); rintro e wt2 ⟨rfl, rfl⟩)
          clear HST
          have d1 := (LB.out.box.keep ((Keep.refl (fun _ => False) wt).alloc' (.map #[] 0)) id).1
          go_wp2_with fail
          clear d1
          have km := Lib.hid (show Keep (fun _ => False) wt (wt.alloc (.map #[] 0)) from (Keep.refl _ wt).alloc' _)
          have IM := Lib.hid (IMap.made wt)
          obtain ⟨wu, hwu⟩ : ∃ wu, wt.alloc (.map #[] 0) = wu := ⟨_, rfl⟩
          rw [hwu] at km IM ⊢
          have PU := Lib.hid (LB.out.site.keep km.out id)
          have BU := Lib.hid (LB.out.box.keep km.out id)
          have SU := Lib.hid (Keep.trans LB.out.since (Since.of km.out))
          have hb2p : wt.heap.size ≠ p := by have := LB.out.site.lt; omega
          have hb2b : w.heap.size ≤ wt.heap.size := LB.out.since.size
          have hxf := LB.out.far.1
          have hxf2 : wo.heap.size ≠ wt.heap.size := by have := LB.out.far.2.2; omega
          obtain ⟨b2, hb2⟩ : ∃ b2, wt.heap.size = b2 := ⟨_, rfl⟩
          rw [hb2] at IM hb2p hb2b hxf2 ⊢
          clear hwu hb2
          obtain ⟨d1, d2⟩ := BU.out
          ((with_reducible refine (FA _ PU.out).out.mono ?_); rintro e wv ⟨rfl, hs5, hk5⟩)
          have PV := Lib.hid hs5
          have MV := Lib.hid (IM.out.keep hk5 hb2p)
          have BV := Lib.hid (BU.out.keep hk5 hxf)
          have SV := Lib.hid (Keep.trans SU.out (since_at hk5 Z))
          clear hs5 hk5 d1 d2 PU BU SU IM km
          obtain ⟨d1, d2⟩ := BV.out
          have hlk := MV.out.look ay hay mi_nil
          rw [ans_nil] at hlk
          go_wp2_with fail
          ((with_reducible refine (shapes_any PV.out).mono ?_); rintro e wx ⟨u6, rfl, ho6, hk6⟩)
          have PX := Lib.hid (PV.out.since hk6 PV.out.lt)
          have MX := Lib.hid (MV.out.keep hk6 (by have := World.ownsMap.lt MV.out; omega))
          have SX := Lib.hid (Keep.trans SV.out (Since.mono hk6 SV.out.size))
          rw [HX.out.2] at ho6
          obtain ⟨A6, c6, rfl⟩ := own_slice ho6
          have hlen := MX.out.len mi_nil
          clear ho6 hk6 hlk d1 d2 PV MV BV SV
          go_wp2_with fail
          exact ⟨⟨k + 1, by omega, by go_num, b2, s2, rfl, Lib.hid ⟨PX.out, ⟨_, World.ownsMap.mono MX.out (by omega), by rw [HX.out.2]; exact mi_nil⟩, hb2p, hb2b, HX.out.1.mono (by omega), SX.out⟩⟩, by simp [intOf]; omega⟩
        | false =>
          rw [hfl] at hsf
          obtain ⟨D2, hD3, hD4⟩ := LB.out.map
          have HD2 := Lib.hid (And.intro hD3 (hD4 hfl))
          have hans := find_ans s1 ay
          obtain ⟨⟨fv, fb⟩, hfv⟩ : ∃ f, ans s1.l ay = f := ⟨_, rfl⟩
          rw [hfv] at hans
          obtain ⟨s2, hs2⟩ : ∃ s2, s1.find ay = ((fv, fb), s2) := ⟨(s1.find ay).2, Prod.ext hans rfl⟩
          have hfw := find_few hfs ay
          have hsl := (find_l s1 ay).1
          rw [hs2] at hfw hsl
          have HX := Lib.hid (And.intro hfw hsl)
          have HFV := Lib.hid hfv
          have HST := Lib.hid hst
          have hl4 := hok.len
          have FA := fun (W : World) (h : IsSite W p s1) => Lib.hid (hs2 ▸ find_any h ay (hfs.mono (by omega)))
          obtain ⟨st, hst2⟩ : ∃ st, s1.state = st := ⟨_, rfl⟩
          rw [hst2] at hsf HST
          obtain ⟨len, hlen0⟩ : ∃ len, s1.l.length = len := ⟨_, rfl⟩
          rw [hlen0] at hl4
          have HLEN := Lib.hid hlen0
          have hl5 : decide ((4 : Int) < (len : Int)) = false := by simp; omega
          have hl6 : decide (4 < len) = false := by simp; omega
          have hf1 : (fv != fv) = false := by simp
          have hf2 : (fb != fb) = false := by simp
          clear hfs hok hst hfl hans hs2 hfw hsl hst2 hD3 hD4 hfv hlen0
          go_wp2_with fail
          ((with_reducible refine HST.out.mono ?_); rintro e wt2 ⟨rfl, rfl⟩)
          clear HST
          have hxf := LB.out.far.1
          have hbp := LB.out.ne
          obtain ⟨d1, d2⟩ := LB.out.box
          go_wp2_with fail
          ((with_reducible refine (FA _ LB.out.site).out.mono ?_); rintro e wv ⟨rfl, hs5, hk5⟩)
          have PV := Lib.hid hs5
          have MV := Lib.hid (HD2.out.1.keep hk5 hbp)
          have BV := Lib.hid (LB.out.box.keep hk5 hxf)
          have SV := Lib.hid (Keep.trans LB.out.since (since_at hk5 Z))
          clear hs5 hk5 d1 d2
          obtain ⟨d1, d2⟩ := BV.out
          have hlk := MV.out.look ay hay HD2.out.2
          rw [HFV.out] at hlk
          go_wp2_with fail
          ((with_reducible refine (shapes_any PV.out).mono ?_); rintro e wx ⟨u6, rfl, ho6, hk6⟩)
          have PX := Lib.hid (PV.out.since hk6 PV.out.lt)
          have MX := Lib.hid (MV.out.keep hk6 (by have := World.ownsMap.lt MV.out; omega))
          have SX := Lib.hid (Keep.trans SV.out (Since.mono hk6 SV.out.size))
          rw [HX.out.2, HLEN.out] at ho6
          obtain ⟨A6, c6, rfl⟩ := own_slice ho6
          have hlen := MX.out.len HD2.out.2
          rw [HLEN.out] at hlen
          clear ho6 hk6 hlk d1 d2 PV MV BV SV
          go_wp2_with fail
          exact ⟨⟨k + 1, by omega, by go_num, b, s2, rfl, Lib.hid ⟨PX.out, ⟨_, MX.out, by rw [HX.out.2]; exact HD2.out.2⟩, hbp, LB.out.base, HX.out.1.mono (by omega), SX.out⟩⟩, by simp [intOf]; omega⟩
      · go_wp2_with fail
        obtain ⟨wt, hwt⟩ : ∃ wt, wo.alloc (.cells #[.int .i64 ax, .int .i64 ay, .int .i64 az] 34) = wt := ⟨_, rfl⟩
        rw [hwt] at LA ⊢
        have HDA := Lib.hid (show IMap wt b k D from hwt ▸ HD.out.1.keep ((Keep.refl (fun _ => False) wo).alloc' _) id)
        clear hwt x0 x1 x2
        have hfs := LA.out.few
        have hok := LA.out.site.ok
        have hst := state_any LA.out.site
        have hsf := state_full hok
        have TO := Lib.hid (And.intro LA.out.far LA.out.box)
        cases hfl : s.full with
        | true =>
          rw [hfl] at hsf
          have hl0 := hok.full hfl
          have hans := find_ans s ay
          rw [hl0] at hans
          obtain ⟨s2, hs2⟩ : ∃ s2, s.find ay = ((0, false), s2) := ⟨(s.find ay).2, Prod.ext hans rfl⟩
          have hfw := find_few hfs ay
          have hsl := (find_l s ay).1
          rw [hs2] at hfw hsl
          rw [hl0] at hsl
          have HX := Lib.hid (And.intro hfw hsl)
          have HST := Lib.hid hst
          have FA := fun (W : World) (h : IsSite W p s) => Lib.hid (hs2 ▸ find_any h ay (hfs.mono (by omega)))
          obtain ⟨st, hst2⟩ : ∃ st, s.state = st := ⟨_, rfl⟩
          rw [hst2] at hsf HST
          clear hfs hok hst hfl hl0 hans hs2 hfw hsl hst2
          go_wp2_with fail
          ((with_reducible refine HST.out.mono ?_); rintro e wt2 ⟨rfl, rfl⟩)
          clear HST
          have d1 := (LA.out.box.keep ((Keep.refl (fun _ => False) wt).alloc' (.map #[] 0)) id).1
          go_wp2_with fail
          clear d1
          have km := Lib.hid (show Keep (fun _ => False) wt (wt.alloc (.map #[] 0)) from (Keep.refl _ wt).alloc' _)
          have IM := Lib.hid (IMap.made wt)
          obtain ⟨wu, hwu⟩ : ∃ wu, wt.alloc (.map #[] 0) = wu := ⟨_, rfl⟩
          rw [hwu] at km IM ⊢
          have PU := Lib.hid (LA.out.site.keep km.out id)
          have BU := Lib.hid (LA.out.box.keep km.out id)
          have SU := Lib.hid (Keep.trans LA.out.since (Since.of km.out))
          have hb2p : wt.heap.size ≠ p := by have := LA.out.site.lt; omega
          have hb2b : w.heap.size ≤ wt.heap.size := LA.out.since.size
          have hxf := LA.out.far.1
          have hxf2 : wo.heap.size ≠ wt.heap.size := by have := LA.out.far.2.2; omega
          obtain ⟨b2, hb2⟩ : ∃ b2, wt.heap.size = b2 := ⟨_, rfl⟩
          rw [hb2] at IM hb2p hb2b hxf2 ⊢
          clear hwu hb2
          obtain ⟨d1, d2⟩ := BU.out
          ((with_reducible refine (FA _ PU.out).out.mono ?_); rintro e wv ⟨rfl, hs5, hk5⟩)
          have PV := Lib.hid hs5
          have MV := Lib.hid (IM.out.keep hk5 hb2p)
          have BV := Lib.hid (BU.out.keep hk5 hxf)
          have SV := Lib.hid (Keep.trans SU.out (since_at hk5 Z))
          clear hs5 hk5 d1 d2 PU BU SU IM km
          obtain ⟨d1, d2⟩ := BV.out
          have hlk := MV.out.look ay hay mi_nil
          rw [ans_nil] at hlk
          go_wp2_with fail
          ((with_reducible refine (shapes_any PV.out).mono ?_); rintro e wx ⟨u6, rfl, ho6, hk6⟩)
          have PX := Lib.hid (PV.out.since hk6 PV.out.lt)
          have MX := Lib.hid (MV.out.keep hk6 (by have := World.ownsMap.lt MV.out; omega))
          have SX := Lib.hid (Keep.trans SV.out (Since.mono hk6 SV.out.size))
          rw [HX.out.2] at ho6
          obtain ⟨A6, c6, rfl⟩ := own_slice ho6
          have hlen := MX.out.len mi_nil
          clear ho6 hk6 hlk d1 d2 PV MV BV SV
          go_wp2_with fail
          exact ⟨⟨k + 1, by omega, by go_num, b2, s2, rfl, Lib.hid ⟨PX.out, ⟨_, World.ownsMap.mono MX.out (by omega), by rw [HX.out.2]; exact mi_nil⟩, hb2p, hb2b, HX.out.1.mono (by omega), SX.out⟩⟩, by simp [intOf]; omega⟩
        | false =>
          rw [hfl] at hsf
          obtain ⟨D2, hD3, hD4⟩ := LA.out.map
          have HD2 := Lib.hid (And.intro hD3 (hD4 hfl))
          have hans := find_ans s ay
          obtain ⟨⟨fv, fb⟩, hfv⟩ : ∃ f, ans s.l ay = f := ⟨_, rfl⟩
          rw [hfv] at hans
          obtain ⟨s2, hs2⟩ : ∃ s2, s.find ay = ((fv, fb), s2) := ⟨(s.find ay).2, Prod.ext hans rfl⟩
          have hfw := find_few hfs ay
          have hsl := (find_l s ay).1
          rw [hs2] at hfw hsl
          have HX := Lib.hid (And.intro hfw hsl)
          have HFV := Lib.hid hfv
          have HST := Lib.hid hst
          have hl4 := hok.len
          have FA := fun (W : World) (h : IsSite W p s) => Lib.hid (hs2 ▸ find_any h ay (hfs.mono (by omega)))
          obtain ⟨st, hst2⟩ : ∃ st, s.state = st := ⟨_, rfl⟩
          rw [hst2] at hsf HST
          obtain ⟨len, hlen0⟩ : ∃ len, s.l.length = len := ⟨_, rfl⟩
          rw [hlen0] at hl4
          have HLEN := Lib.hid hlen0
          have hl5 : decide ((4 : Int) < (len : Int)) = false := by simp; omega
          have hl6 : decide (4 < len) = false := by simp; omega
          have hf1 : (fv != fv) = false := by simp
          have hf2 : (fb != fb) = false := by simp
          clear hfs hok hst hfl hans hs2 hfw hsl hst2 hD3 hD4 hfv hlen0
          go_wp2_with fail
          ((with_reducible refine HST.out.mono ?_); rintro e wt2 ⟨rfl, rfl⟩)
          clear HST
          have hxf := LA.out.far.1
          have hbp := LA.out.ne
          obtain ⟨d1, d2⟩ := LA.out.box
          go_wp2_with fail
          ((with_reducible refine (FA _ LA.out.site).out.mono ?_); rintro e wv ⟨rfl, hs5, hk5⟩)
          have PV := Lib.hid hs5
          have MV := Lib.hid (HD2.out.1.keep hk5 hbp)
          have BV := Lib.hid (LA.out.box.keep hk5 hxf)
          have SV := Lib.hid (Keep.trans LA.out.since (since_at hk5 Z))
          clear hs5 hk5 d1 d2
          obtain ⟨d1, d2⟩ := BV.out
          have hlk := MV.out.look ay hay HD2.out.2
          rw [HFV.out] at hlk
          go_wp2_with fail
          ((with_reducible refine (shapes_any PV.out).mono ?_); rintro e wx ⟨u6, rfl, ho6, hk6⟩)
          have PX := Lib.hid (PV.out.since hk6 PV.out.lt)
          have MX := Lib.hid (MV.out.keep hk6 (by have := World.ownsMap.lt MV.out; omega))
          have SX := Lib.hid (Keep.trans SV.out (Since.mono hk6 SV.out.size))
          rw [HX.out.2, HLEN.out] at ho6
          obtain ⟨A6, c6, rfl⟩ := own_slice ho6
          have hlen := MX.out.len HD2.out.2
          rw [HLEN.out] at hlen
          clear ho6 hk6 hlk d1 d2 PV MV BV SV
          go_wp2_with fail
          exact ⟨⟨k + 1, by omega, by go_num, b, s2, rfl, Lib.hid ⟨PX.out, ⟨_, MX.out, by rw [HX.out.2]; exact HD2.out.2⟩, hbp, LA.out.base, HX.out.1.mono (by omega), SX.out⟩⟩, by simp [intOf]; omega⟩
      · go_wp2_with fail
        obtain ⟨wt, hwt⟩ : ∃ wt, wo.alloc (.cells #[.int .i64 ax, .int .i64 ay, .int .i64 az] 34) = wt := ⟨_, rfl⟩
        rw [hwt] at LA ⊢
        have HDA := Lib.hid (show IMap wt b k D from hwt ▸ HD.out.1.keep ((Keep.refl (fun _ => False) wo).alloc' _) id)
        clear hwt x0 x1 x2
        have hfs := LA.out.few
        have hok := LA.out.site.ok
        have hst := state_any LA.out.site
        have hsf := state_full hok
        have TO := Lib.hid (And.intro LA.out.far LA.out.box)
        cases hfl : s.full with
        | true =>
          rw [hfl] at hsf
          have hl0 := hok.full hfl
          have hans := find_ans s ay
          rw [hl0] at hans
          obtain ⟨s2, hs2⟩ : ∃ s2, s.find ay = ((0, false), s2) := ⟨(s.find ay).2, Prod.ext hans rfl⟩
          have hfw := find_few hfs ay
          have hsl := (find_l s ay).1
          rw [hs2] at hfw hsl
          rw [hl0] at hsl
          have HX := Lib.hid (And.intro hfw hsl)
          have HST := Lib.hid hst
          have FA := fun (W : World) (h : IsSite W p s) => Lib.hid (hs2 ▸ find_any h ay (hfs.mono (by omega)))
          obtain ⟨st, hst2⟩ : ∃ st, s.state = st := ⟨_, rfl⟩
          rw [hst2] at hsf HST
          clear hfs hok hst hfl hl0 hans hs2 hfw hsl hst2
          go_wp2_with fail
          ((with_reducible refine HST.out.mono ?_); rintro e wt2 ⟨rfl, rfl⟩)
          clear HST
          have d1 := (LA.out.box.keep ((Keep.refl (fun _ => False) wt).alloc' (.map #[] 0)) id).1
          go_wp2_with fail
          clear d1
          have km := Lib.hid (show Keep (fun _ => False) wt (wt.alloc (.map #[] 0)) from (Keep.refl _ wt).alloc' _)
          have IM := Lib.hid (IMap.made wt)
          obtain ⟨wu, hwu⟩ : ∃ wu, wt.alloc (.map #[] 0) = wu := ⟨_, rfl⟩
          rw [hwu] at km IM ⊢
          have PU := Lib.hid (LA.out.site.keep km.out id)
          have BU := Lib.hid (LA.out.box.keep km.out id)
          have SU := Lib.hid (Keep.trans LA.out.since (Since.of km.out))
          have hb2p : wt.heap.size ≠ p := by have := LA.out.site.lt; omega
          have hb2b : w.heap.size ≤ wt.heap.size := LA.out.since.size
          have hxf := LA.out.far.1
          have hxf2 : wo.heap.size ≠ wt.heap.size := by have := LA.out.far.2.2; omega
          obtain ⟨b2, hb2⟩ : ∃ b2, wt.heap.size = b2 := ⟨_, rfl⟩
          rw [hb2] at IM hb2p hb2b hxf2 ⊢
          clear hwu hb2
          obtain ⟨d1, d2⟩ := BU.out
          ((with_reducible refine (FA _ PU.out).out.mono ?_); rintro e wv ⟨rfl, hs5, hk5⟩)
          have PV := Lib.hid hs5
          have MV := Lib.hid (IM.out.keep hk5 hb2p)
          have BV := Lib.hid (BU.out.keep hk5 hxf)
          have SV := Lib.hid (Keep.trans SU.out (since_at hk5 Z))
          clear hs5 hk5 d1 d2 PU BU SU IM km
          obtain ⟨d1, d2⟩ := BV.out
          have hlk := MV.out.look ay hay mi_nil
          rw [ans_nil] at hlk
          go_wp2_with fail
          ((with_reducible refine (shapes_any PV.out).mono ?_); rintro e wx ⟨u6, rfl, ho6, hk6⟩)
          have PX := Lib.hid (PV.out.since hk6 PV.out.lt)
          have MX := Lib.hid (MV.out.keep hk6 (by have := World.ownsMap.lt MV.out; omega))
          have SX := Lib.hid (Keep.trans SV.out (Since.mono hk6 SV.out.size))
          rw [HX.out.2] at ho6
          obtain ⟨A6, c6, rfl⟩ := own_slice ho6
          have hlen := MX.out.len mi_nil
          clear ho6 hk6 hlk d1 d2 PV MV BV SV
          go_wp2_with fail
          exact ⟨⟨k + 1, by omega, by go_num, b2, s2, rfl, Lib.hid ⟨PX.out, ⟨_, World.ownsMap.mono MX.out (by omega), by rw [HX.out.2]; exact mi_nil⟩, hb2p, hb2b, HX.out.1.mono (by omega), SX.out⟩⟩, by simp [intOf]; omega⟩
        | false =>
          rw [hfl] at hsf
          obtain ⟨D2, hD3, hD4⟩ := LA.out.map
          have HD2 := Lib.hid (And.intro hD3 (hD4 hfl))
          have hans := find_ans s ay
          obtain ⟨⟨fv, fb⟩, hfv⟩ : ∃ f, ans s.l ay = f := ⟨_, rfl⟩
          rw [hfv] at hans
          obtain ⟨s2, hs2⟩ : ∃ s2, s.find ay = ((fv, fb), s2) := ⟨(s.find ay).2, Prod.ext hans rfl⟩
          have hfw := find_few hfs ay
          have hsl := (find_l s ay).1
          rw [hs2] at hfw hsl
          have HX := Lib.hid (And.intro hfw hsl)
          have HFV := Lib.hid hfv
          have HST := Lib.hid hst
          have hl4 := hok.len
          have FA := fun (W : World) (h : IsSite W p s) => Lib.hid (hs2 ▸ find_any h ay (hfs.mono (by omega)))
          obtain ⟨st, hst2⟩ : ∃ st, s.state = st := ⟨_, rfl⟩
          rw [hst2] at hsf HST
          obtain ⟨len, hlen0⟩ : ∃ len, s.l.length = len := ⟨_, rfl⟩
          rw [hlen0] at hl4
          have HLEN := Lib.hid hlen0
          have hl5 : decide ((4 : Int) < (len : Int)) = false := by simp; omega
          have hl6 : decide (4 < len) = false := by simp; omega
          have hf1 : (fv != fv) = false := by simp
          have hf2 : (fb != fb) = false := by simp
          clear hfs hok hst hfl hans hs2 hfw hsl hst2 hD3 hD4 hfv hlen0
          go_wp2_with fail
          ((with_reducible refine HST.out.mono ?_); rintro e wt2 ⟨rfl, rfl⟩)
          clear HST
          have hxf := LA.out.far.1
          have hbp := LA.out.ne
          obtain ⟨d1, d2⟩ := LA.out.box
          go_wp2_with fail
          ((with_reducible refine (FA _ LA.out.site).out.mono ?_); rintro e wv ⟨rfl, hs5, hk5⟩)
          have PV := Lib.hid hs5
          have MV := Lib.hid (HD2.out.1.keep hk5 hbp)
          have BV := Lib.hid (LA.out.box.keep hk5 hxf)
          have SV := Lib.hid (Keep.trans LA.out.since (since_at hk5 Z))
          clear hs5 hk5 d1 d2
          obtain ⟨d1, d2⟩ := BV.out
          have hlk := MV.out.look ay hay HD2.out.2
          rw [HFV.out] at hlk
          go_wp2_with fail
          ((with_reducible refine (shapes_any PV.out).mono ?_); rintro e wx ⟨u6, rfl, ho6, hk6⟩)
          have PX := Lib.hid (PV.out.since hk6 PV.out.lt)
          have MX := Lib.hid (MV.out.keep hk6 (by have := World.ownsMap.lt MV.out; omega))
          have SX := Lib.hid (Keep.trans SV.out (Since.mono hk6 SV.out.size))
          rw [HX.out.2, HLEN.out] at ho6
          obtain ⟨A6, c6, rfl⟩ := own_slice ho6
          have hlen := MX.out.len HD2.out.2
          rw [HLEN.out] at hlen
          clear ho6 hk6 hlk d1 d2 PV MV BV SV
          go_wp2_with fail
          exact ⟨⟨k + 1, by omega, by go_num, b, s2, rfl, Lib.hid ⟨PX.out, ⟨_, MX.out, by rw [HX.out.2]; exact HD2.out.2⟩, hbp, LA.out.base, HX.out.1.mono (by omega), SX.out⟩⟩, by simp [intOf]; omega⟩
    · have hb : (k < n ∧ ¬ k < 60 ∧ decide (k < n) = true ∧ decide (k < 60) = false) ∨ decide (k < n) = false := by
        by_cases h1 : k < n
        · exact .inl ⟨h1, by omega, by simpa using h1, by simp; omega⟩
        · exact .inr (by simpa using h1)
      clear hlt
      rcases hb with ⟨hl1, hl2, b1, b2⟩ | b1
      all_goals (
        go_wp2_with fail
        go_ret
        exact ⟨rfl, below_since HI.out.2.2.2.2.2 rfl⟩)
set_option maxRecDepth 100000 in
theorem last_lifted (os : Os) (started : os.Started) (H : Type) (enc : TypeId × Value → H) :
    ReturnsInHanded {} Tryd.checked os 4 .any (fun w args => (Rows.cacheLastSpec.pre enc Tryd.prog Tryd.f4 Rows.cacheLastRow.domain false w args ∧ laidMet Tryd.prog Rows.cacheLastRow.laid w) ∧ sizedMet enc Tryd.prog Tryd.f4 (OpenSpec.ofChange Rows.cacheLastSpec) false w args) (Rows.cacheLastSpec.post enc Tryd.prog Tryd.f4 false true false false) := by
  refine law_lift_laid (C := Tryd.checked) (X := fun w _ => laidMet Tryd.prog tabs w) (fun _ _ _ hh h => h.of_heap hh) Tryd.own started (by kernel_rfl) Tryd.func4
    (ChangeSpec.witness_at (enc := enc) (C := Tryd.checked) (os := os) (X := fun w _ => laidMet Tryd.prog tabs w) false (laidWorld os) #[.slice none 0 0] 8 rfl (by kernel_rfl) (by kernel_rfl) (by kernel_rfl) (by kernel_rfl) (by kernel_rfl) (laidWorld_met os _))
    Tryd.laidOut (by kernel_rfl) rfl rfl Tryd.underlying4 ?_ ?_
  · intro ds hl
    match ds, hl with
    | [d1], _ => exact ⟨rfl, rfl, rfl⟩
  · intro W base args ds p hval0 hA0 hlt hsz0 hL
    have hval : ∀ (j : Nat) t v, Tryd.f4.params[j]? = some t → args[j]? = some v → Value.okWide Tryd.prog W .any base t v := hval0
    have hA : DataW.TrodAll enc Tryd.prog W 0 (fun _ => true) true Tryd.f4.params.toList args.toList ds p := hA0
    have hsz : (DataW.weightsEach Tryd.prog Tryd.f4.params.toList ds).all (· ≤ reachBytes) = true := hsz0
    rw [Tryd.params4] at hA hval hsz
    clear hA0 hval0 hsz0
    obtain ⟨v0, d0, rfl, rfl, h0⟩ := trodAll_one hA
    have hlt0 : ∀ x ∈ p, x.block < W.heap.size := hlt
    obtain ⟨Al, nl, cl, l, rfl, il⟩ := open_acts Tryd.underlying31 Tryd.underlying34 (by kernel_rfl) (by kernel_rfl) Tryd.underlying3 Tryd.underlying3 Tryd.underlying3 (hval 0 31 v0 rfl rfl) h0 hlt0
    exact last_walk Al nl cl l W il (tb_of_laid hL)

/-- The row. -/
theorem last_row : Rows.CacheLastSaid :=
  OpenClaim.holds_of_wide 4 Tryd.f4 rfl rfl rfl rfl rfl rfl rfl ⟨rfl, rfl, rfl, rfl, rfl⟩ rfl rfl rfl rfl rfl (by kernel_rfl) Tryd.func4 (by kernel_rfl)
    (of_decide_eq_true (by kernel_rfl)) (by unfold Func.isWrapper; first | (rw [if_pos (by decide +kernel)]; kernel_rfl) | (rw [if_neg (by decide +kernel)]; exact ⟨rfl, rfl⟩))
    (fun os started H enc _ => last_lifted os started H enc)
/-- The statement: the tied card. -/
theorem last_holds : Rows.CacheLastCardSaid :=
  Claim7.holds_tied_plain_at .later [] [.data, .data, .data] true (true, "dac5fa98be8ba01293bcc018d0cdd3b90fbf6db38275f6b49ccd14927eae94f6") false
    last_row (fun _ h => by cases h) (by kernel_rfl) (fun _ h => by cases h) cacheLast_row_tie rfl ⟨rfl, rfl⟩ (by kernel_rfl) rfl
    (fun f fn hf hfn => by
      obtain rfl : f = 4 := Option.some.inj ((show Tryd.prog.funcNamed "facsimile/facsimilelaw12.CacheLast" = some 4 by kernel_rfl).symm.trans hf) |>.symm
      obtain rfl : fn = Tryd.f4 := (Option.some.inj (Tryd.func4.symm.trans hfn)).symm
      exact ⟨by kernel_rfl, fun j t ht => by
        have h := List.all_eq_true.1 (show (Tryd.f4.params.toList.all fun t => !Tryd.prog.wantsStandIn t) = true by kernel_rfl) t (List.mem_of_getElem? (by simpa using ht))
        exact (show Tryd.prog.wantsStandIn t = false by simpa using h)⟩)
    (by kernel_rfl)
#print axioms last_holds
end Go.Proofs.YtdfmmgepapiamaaDoor
