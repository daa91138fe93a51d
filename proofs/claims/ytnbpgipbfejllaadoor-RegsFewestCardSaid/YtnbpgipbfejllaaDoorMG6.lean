/- graph: a guard for a shape is added to a builder. -/
import Derived.Test.YtnbpgipbfejllaaDoorMG5
import Derived.Test.YtnbpgipbfejllaaDoorMK0
import Derived.Laws.IdiomStrings
namespace Go.Proofs.YtnbpgipbfejllaaDoor
open Go.RowKit Go.Lib
set_option linter.unusedVariables false
set_option linter.unusedSimpArgs false

/-- A builder that may go on. -/
structure Start (P : Nat) (T : TR) : Prop where
  good : GoodT P T
  body : Body T
  par : P ≤ T.ins.length
  p1 : 1 ≤ P ∧ P ≤ 4
  few : T.ins.length ≤ 900
theorem Start.val0 {P : Nat} {T : TR} (h : Start P T) : Val T 0 := by
  have h1 := h.par; have h2 := h.p1
  refine ⟨by omega, ?_⟩
  have := (h.good.shape 0 (by omega)).2 (by omega)
  show hasOp (T.at_ 0).op = true
  rw [this]; rfl
theorem Start.param {P : Nat} {T : TR} (h : Start P T) {r : Nat} (hr : r < P) : VB T T.ins.length (r : Int) := by
  have h1 := h.par
  refine ⟨r, rfl, by omega, ?_⟩
  have := (h.good.shape r (by omega)).2 hr
  show hasOp (T.at_ r).op = true
  rw [this]; rfl
theorem Start.fewX {P : Nat} {T : TR} (h : Start P T) : T.exits.length ≤ 900 := Nat.le_trans h.good.few h.few
theorem Val.vb {T : TR} {v : Nat} (h : Val T v) : VB T T.ins.length (v : Int) := ⟨v, rfl, h.1, h.2⟩
/-- T has grown by at most d. -/
structure Grow (P d : Nat) (T T' : TR) : Prop where
  good : GoodT P T'
  body : Body T'
  pre : ∃ l, T'.ins = T.ins ++ l ∧ l.length ≤ d
theorem Grow.len {P d : Nat} {T T' : TR} (h : Grow P d T T') : T.ins.length ≤ T'.ins.length ∧ T'.ins.length ≤ T.ins.length + d := by
  obtain ⟨l, e, hl⟩ := h.pre
  rw [e, List.length_append]
  omega
theorem Grow.start {P d : Nat} {T T' : TR} (h : Grow P d T T') (hs : Start P T) (hd : T.ins.length + d ≤ 900) : Start P T' := ⟨h.good, h.body, Nat.le_trans hs.par h.len.1, hs.p1, Nat.le_trans h.len.2 hd⟩
theorem Grow.vb {P d : Nat} {T T' : TR} (h : Grow P d T T') {v : Int} (hv : VB T T.ins.length v) : VB T' T'.ins.length v := by
  obtain ⟨u, rfl, hu, ho⟩ := hv
  obtain ⟨l, e, hl⟩ := h.pre
  refine ⟨u, rfl, by have := h.len.1; omega, ?_⟩
  rw [e, List.getD_eq_getElem?_getD, List.getElem?_append_left hu, ← List.getD_eq_getElem?_getD]
  exact ho
theorem Grow.trans {P d e : Nat} {T T' T'' : TR} (h : Grow P d T T') (k : Grow P e T' T'') : Grow P (d + e) T T'' := by
  obtain ⟨l, e1, hl⟩ := h.pre
  obtain ⟨l', e2, hl'⟩ := k.pre
  exact ⟨k.good, k.body, l ++ l', by rw [e2, e1, List.append_assoc], by rw [List.length_append]; omega⟩
theorem Body.push {T : TR} {x : TI} (h : Body T) (hx : x.op ≠ 20 ∧ x.op ≠ 21) : Body (T.push x) := by
  intro k hk
  rw [push_len] at hk
  by_cases h1 : k < T.ins.length
  · rw [at_push h1]
    exact h k h1
  · obtain rfl : k = T.ins.length := by omega
    rw [at_last]
    exact hx
theorem Start.leave {P : Nat} {T : TR} {x : TI} {e : TX} (h : Start P T) (he : ExOK T T.ins.length e) (hs : Shape T P T.ins.length x) (hx : x.ex = (T.exits.length : Nat)) (h20 : x.op ≠ 20 ∧ x.op ≠ 21) : Grow P 1 T ((T.exit e).push x) :=
  ⟨h.good.leave he hs (fun hh => by have := h.par; omega) hx (Nat.lt_succ_of_le h.good.few), Body.push (T := T.exit e) h.body h20, [x], rfl, Nat.le_refl _⟩
theorem Start.push {P : Nat} {T : TR} {x : TI} (h : Start P T) (hs : Shape T P T.ins.length x) (hx : x.ex < 0) (h20 : x.op ≠ 20 ∧ x.op ≠ 21) : Grow P 1 T (T.push x) :=
  ⟨h.good.push hs (fun hh => by have := h.par; omega) hx, h.body.push h20, [x], rfl, Nat.le_refl _⟩
section
variable {n : Nat} {w0 w : World} {p m : Nat} {T : TR} {fu : Int} {pa : Nat} {C : List (Nat × Obj)}
theorem bVal (h : BD n w0 p m T fu (pa : Int) C w) (hs : Start pa T) : Calls Tryd.prog 77 #[.pointer (some ⟨p, 0, none⟩)] w fun e w' => ∃ v : Int, e = .returned (.int .i64 v) ∧ VB T T.ins.length v ∧ BD n w0 p m T fu (pa : Int) C w' := by
  refine (value_any h hs.val0 (by have := hs.few; omega)).mono ?_
  rintro e w' ⟨v, rfl, hv, nu, hk⟩
  exact ⟨v, rfl, hv.vb, h.num (Keep.mono hk (fun _ => .inl)) nu⟩
theorem bLeave (h : BD n w0 p m T fu (pa : Int) C w) (hs : Start pa T) (hfu : 0 ≤ fu ∧ fu ≤ 10) : Calls Tryd.prog 75 #[.pointer (some ⟨p, 0, none⟩)] w fun e w' => e = .returned (.int .i64 ((T.exits.length : Nat) : Int)) ∧ ∃ x : TX, ExOK T T.ins.length x ∧ BD n w0 p m (T.exit x) fu (pa : Int) C w' :=
  leave_any h hs.val0 (by have := hs.few; omega) (by have := hs.fewX; omega) hs.p1.2 hfu
theorem bAdd (h : BD n w0 p m T fu (pa : Int) C w) (r : RI) (hf : r.Fits w) (hl : T.ins.length ≤ 1000) : Calls Tryd.prog 74 #[.pointer (some ⟨p, 0, none⟩), .agg r.cells.toArray] w fun e w' => e = .returned (.int .i64 ((T.ins.length : Nat) : Int)) ∧ BD n w0 p m (T.push r.x) fu (pa : Int) C w' := add_any h r hf hl
theorem BD.pcells (h : BD n w0 p m T fu (pa : Int) C w) : ∃ A ca E ce, w.heap[p]? = some (.cells #[.pointer (some ⟨m, 0, none⟩), .int .i64 T.pf, .int .i64 T.pl, .slice A T.ins.length ca, .slice E T.exits.length ce, .int .i64 fu, .int .i64 pa] 127 (0, 0)) := by
  obtain ⟨A, ca, E, ce, h, _⟩ := h.cells
  exact ⟨A, ca, E, ce, h⟩
theorem BD.low' (h : BD n w0 p m T fu (pa : Int) C w) : n ≤ w.heap.size := by
  obtain ⟨_, _, _, _, _, _, h⟩ := h
  exact Nat.le_trans h.base h.since.size
theorem fits_none {W : World} {x : TI} (h1 : x.args = []) (h2 : x.names = []) {ca cn : Nat} : RI.Fits W ⟨x, none, ca, none, cn⟩ := by
  refine ⟨?_, ?_⟩
  · show Lies W none x.args.length (ints x.args) _
    rw [h1]
    exact Lies.nil _ _ _
  · show Lies W none x.names.length (strs x.names) _
    rw [h2]
    exact Lies.nil _ _ _
theorem fits_xy {W : World} {x : TI} {g : Nat} (h1 : x.args = []) (h2 : x.names = xy) (hg : W.heap[g]? = some (.cells #[.string (sb [120]), .string (sb [121])] 9 (0, 0))) {ca cn : Nat} : RI.Fits W ⟨x, none, ca, some ⟨g, 0, none⟩, cn⟩ := by
  refine ⟨?_, ?_⟩
  · show Lies W none x.args.length (ints x.args) _
    rw [h1]
    exact Lies.nil _ _ _
  · show Lies W _ x.names.length (strs x.names) _
    rw [h2]
    refine ⟨⟨rfl, by decide, fun _ => ⟨g, 0, rfl, blk_lt hg, fun j hj => ?_⟩⟩, fun _ => ⟨g, 0, _, rfl, hg⟩⟩
    have hj2 : j < 2 := hj
    rw [Nat.zero_add, blk_cell hg]
    rcases (show j = 0 ∨ j = 1 by omega) with rfl | rfl <;> rfl
set_option maxRecDepth 100000 in
theorem point_any (W : World) : Calls Tryd.prog 44 #[] W fun e w' => e = .returned (.slice (some ⟨W.heap.size, 0, none⟩) 2 2) ∧ w' = W.alloc (.cells #[.string (sb [120]), .string (sb [121])] 9) := by
  go_enter Tryd.func44, Tryd.ntmps44
  go_wp2_with fail
  go_ret
  exact ⟨rfl, rfl⟩
set_option maxRecDepth 100000 in
set_option maxHeartbeats 16000000 in
theorem shape_any (h : BD n w0 p m T fu (pa : Int) C w) (hs : Start pa T) (hfu : 0 ≤ fu ∧ fu ≤ 10) :
    Calls Tryd.prog 93 #[.pointer (some ⟨p, 0, none⟩)] w fun e w' => ∃ v : Int, e = .returned (.int .i64 v) ∧ VB T T.ins.length v ∧ ∃ T' : TR, Grow pa 1 T T' ∧ BD n w0 p m T' fu (pa : Int) C w' := by
  have HV := Lib.hid (bVal h hs)
  have HS := Lib.hid hs
  have HFU := Lib.hid hfu
  have HPT := Lib.hid point_any
  clear h hs hfu
  go_enter Tryd.func93, Tryd.ntmps93
  go_wp2_with fail
  ((with_reducible refine HV.out.mono ?_); rintro ee w1 ⟨v, rfl, hv, hb1⟩)
  have HVV := Lib.hid hv
  have HLO := Lib.hid hb1.low'
  have HLT := Lib.hid hb1.lt
  have HB1 := Lib.hid (hb1.more (.cells #[.string (sb [120]), .string (sb [121])] 9))
  clear hv hb1 HV
  go_wp2_with fail
  ((with_reducible refine (HPT.out w1).mono ?_); rintro ee w' ⟨rfl, rfl⟩)
  obtain ⟨gn, hgn⟩ : ∃ gn, w1.heap.size = gn := ⟨_, rfl⟩
  obtain ⟨w2, hw2⟩ : ∃ w2 : World, w1.alloc (.cells #[.string (sb [120]), .string (sb [121])] 9) = w2 := ⟨_, rfl⟩
  have hsz : w2.heap.size = gn + 1 := by rw [← hw2, ← hgn]; simp
  rw [hgn] at HB1 HLO HLT ⊢
  rw [hw2] at HB1 ⊢
  change Hid (BD n w0 p m T fu (pa : Int) (((gn, .cells #[.string (sb [120]), .string (sb [121])] 9 (0, 0)) :: C)) w2) at HB1
  clear hgn hw2 HPT
  go_upto_region 2 with (fail)
  obtain ⟨b, hb⟩ : ∃ b, gn + 1 = b := ⟨_, rfl⟩
  have HB := Lib.hid (HB1.out.more (.cells #[.int .i64 7, .int .i64 v, .int .i64 0, .int .i64 0, .int .i64 0, .slice none 0 0, .int .i64 0, .int .i64 0, .string ⟨#[]⟩, .slice (some ⟨gn, 0, none⟩) 2 2, .int .i64 0, .int .i64 0, .int .i64 0, .bool false] 60))
  rw [hsz, hb] at HB
  rw [hb]
  obtain ⟨w3, hw3⟩ : ∃ w3 : World, w2.alloc (.cells #[.int .i64 7, .int .i64 v, .int .i64 0, .int .i64 0, .int .i64 0, .slice none 0 0, .int .i64 0, .int .i64 0, .string ⟨#[]⟩, .slice (some ⟨gn, 0, none⟩) 2 2, .int .i64 0, .int .i64 0, .int .i64 0, .bool false] 60) = w3 := ⟨_, rfl⟩
  rw [hw3] at HB
  rw [hw3]
  have HNB := Lib.hid (show n ≤ b by have := HLO.out; omega)
  have HCB := Lib.hid (show ∀ x ∈ (gn, Obj.cells #[.string (sb [120]), .string (sb [121])] 9 (0, 0)) :: C, x.1 ≠ b from fun x hx => by
    rcases List.mem_cons.1 hx with rfl | hx
    · show gn ≠ b; omega
    · have := HLT.out x hx; omega)
  clear hsz hb hw3 HB1
  obtain ⟨A, ca, E, ce, hpc⟩ := HB.out.pcells
  have q0 := (blk_cell hpc 0).trans rfl
  have HNX := Lib.hid (bNext HB.out 2 (by omega))
  clear hpc HB
  go_wp2_with fail
  ((with_reducible refine HNX.out.mono ?_); rintro ee w4 ⟨r, rfl, hr, hbd⟩)
  have HB := Lib.hid hbd
  clear hbd HNX q0
  go_upto_if 13 with (fail)
  go_cut [] from 14 to 23 (fun wx => ∃ a : Int, Hid (VB T T.ins.length a ∧ BD n w0 p m T fu (pa : Int) ((b, .cells #[.int .i64 7, .int .i64 a, .int .i64 0, .int .i64 0, .int .i64 0, .slice none 0 0, .int .i64 0, .int .i64 0, .string ⟨#[]⟩, .slice (some ⟨gn, 0, none⟩) 2 2, .int .i64 0, .int .i64 0, .int .i64 0, .bool false] 60 (0, 0)) :: (gn, .cells #[.string (sb [120]), .string (sb [121])] 9 (0, 0)) :: C) wx))
  case first =>
    by_cases hr0 : r = 0
    · subst hr0
      obtain ⟨A, ca, E, ce, hpc⟩ := HB.out.pcells
      have q0 := (blk_cell hpc 0).trans rfl
      have q6 := (blk_cell hpc 6).trans rfl
      go_upto_region 3 with (fail)
      go_still_tail 8, (by kernel_rfl)
      change wpList _ _ _ _ _ w4.drew
      have HBd := Lib.hid (HB.out.quiet (keep_draw _ w4))
      obtain ⟨wd, hwd⟩ : ∃ wd, w4.drew = wd := ⟨_, rfl⟩
      rw [hwd] at HBd ⊢
      clear hwd hpc q0 q6 HB
      have HNX := Lib.hid (bNext HBd.out (pa : Int) (by have := HS.out.p1; omega))
      go_wp2_with fail
      ((with_reducible refine HNX.out.mono ?_); rintro ee w5 ⟨r2, rfl, hr2, hbd⟩)
      obtain ⟨r3, rfl⟩ : ∃ k : Nat, r2 = (k : Int) := ⟨r2.toNat, by omega⟩
      have HB := Lib.hid hbd
      have hbb := hbd.at_ (.head _)
      have q1 := (blk_cell hbb 1).trans rfl
      have f1 := blk_free hbb 1
      clear hbd hbb HNX HBd
      have HVR := Lib.hid (HS.out.param (r := r3) (by omega))
      have HBP := Lib.hid (HB.out.put ⟨by decide, by decide, by decide⟩ HCB.out HNB.out 1 (.int .i64 (r3 : Int)) (w' := w5))
      go_wp2_with fail
      go_meet
      exact ⟨(r3 : Int), Lib.hid ⟨HVR.out, HBP.out⟩⟩
    · have hr1 : (r == 0) = false := by simpa using hr0
      go_wp2_with fail
      go_meet
      exact ⟨v, Lib.hid ⟨HVV.out, HB.out⟩⟩
  case rest =>
    obtain ⟨a, HA⟩ := hcut
    have HVA := Lib.hid HA.out.1
    clear HB
    have HB := Lib.hid HA.out.2
    clear HA HVV
    have HLV := Lib.hid (bLeave HB.out HS.out HFU.out)
    obtain ⟨NX, hNX⟩ : ∃ NX, T.exits.length = NX := ⟨_, rfl⟩
    rw [hNX] at HLV
    have HNX := Lib.hid hNX
    clear HB hNX
    go_wp2_with fail
    ((with_reducible refine HLV.out.mono ?_); rintro ee wl ⟨rfl, ex, hex, hbd⟩)
    have HEX := Lib.hid hex
    have HBL := Lib.hid hbd
    have hbb := hbd.at_ (.head _)
    have q12 := (blk_cell hbb 12).trans rfl
    have f12 := blk_free hbb 12
    clear hex hbd hbb HLV
    go_upto_region 5 with (fail)
    have HBP := Lib.hid (HBL.out.put ⟨by decide, by decide, by decide⟩ HCB.out HNB.out 12 (.int .i64 (NX : Int)) (w' := wl))
    obtain ⟨ws, hws⟩ : ∃ ws : World, wl.setCell ⟨b, 12, none⟩ (.int .i64 (NX : Int)) = ws := ⟨_, rfl⟩
    rw [hws] at HBP
    rw [hws]
    clear hws q12 f12 HBL
    have hbs := HBP.out.at_ (.head _)
    have z0 : ws.cell? ⟨b, 0, none⟩ = some (.int .i64 7) := (blk_cell hbs 0).trans rfl
    have z1 : ws.cell? ⟨b, 1, none⟩ = some (.int .i64 a) := (blk_cell hbs 1).trans rfl
    have z2 : ws.cell? ⟨b, 2, none⟩ = some (.int .i64 0) := (blk_cell hbs 2).trans rfl
    have z3 : ws.cell? ⟨b, 3, none⟩ = some (.int .i64 0) := (blk_cell hbs 3).trans rfl
    have z4 : ws.cell? ⟨b, 4, none⟩ = some (.int .i64 0) := (blk_cell hbs 4).trans rfl
    have z5 : ws.cell? ⟨b, 5, none⟩ = some (.slice none 0 0) := (blk_cell hbs 5).trans rfl
    have z6 : ws.cell? ⟨b, 6, none⟩ = some (.int .i64 0) := (blk_cell hbs 6).trans rfl
    have z7 : ws.cell? ⟨b, 7, none⟩ = some (.int .i64 0) := (blk_cell hbs 7).trans rfl
    have z8 : ws.cell? ⟨b, 8, none⟩ = some (.string ⟨#[]⟩) := (blk_cell hbs 8).trans rfl
    have z9 : ws.cell? ⟨b, 9, none⟩ = some (.slice (some ⟨gn, 0, none⟩) 2 2) := (blk_cell hbs 9).trans rfl
    have z10 : ws.cell? ⟨b, 10, none⟩ = some (.int .i64 0) := (blk_cell hbs 10).trans rfl
    have z11 : ws.cell? ⟨b, 11, none⟩ = some (.int .i64 0) := (blk_cell hbs 11).trans rfl
    have z12 : ws.cell? ⟨b, 12, none⟩ = some (.int .i64 (NX : Int)) := (blk_cell hbs 12).trans rfl
    have z13 : ws.cell? ⟨b, 13, none⟩ = some (.bool false) := (blk_cell hbs 13).trans rfl
    have HAD := Lib.hid (bAdd HBP.out ⟨⟨7, a, 0, 0, 0, [], 0, 0, [], xy, 0, 0, ((NX : Nat) : Int), false⟩, none, 0, some ⟨gn, 0, none⟩, 2⟩ (fits_xy rfl rfl (HBP.out.at_ (.tail _ (.head _)))) (by have := HS.out.few; show T.ins.length ≤ 1000; omega))
    have HGR := Lib.hid (HS.out.leave (x := ⟨7, a, 0, 0, 0, [], 0, 0, [], xy, 0, 0, ((NX : Nat) : Int), false⟩) HEX.out (.shape a _ _ HVA.out (by omega)) (by rw [HNX.out]) ⟨by simp, by simp⟩)
    have HILN : Hid ((T.exit ex).ins.length = T.ins.length) := Lib.hid rfl
    clear hbs HBP
    go_wp2_with fail
    ((refine (show Calls Tryd.prog _ #[.pointer (some ⟨p, 0, none⟩), .agg (RI.cells ⟨⟨7, a, 0, 0, 0, [], 0, 0, [], xy, 0, 0, ((NX : Nat) : Int), false⟩, none, 0, some ⟨gn, 0, none⟩, 2⟩).toArray] ws _ from HAD.out).mono ?_); rintro ee wa ⟨rfl, hbd⟩)
    have HB := Lib.hid hbd
    clear hbd HAD z0 z1 z2 z3 z4 z5 z6 z7 z8 z9 z10 z11 z12 z13
    have hbb := HB.out.at_ (.head _)
    have q1 : wa.cell? ⟨b, 1, none⟩ = some (.int .i64 a) := (blk_cell hbb 1).trans rfl
    clear hbb
    go_wp2_with fail
    go_ret
    exact ⟨a, rfl, HVA.out, _, HGR.out, HB.out.less (fun x hx => .tail _ (.tail _ hx))⟩
end
end Go.Proofs.YtnbpgipbfejllaaDoor
/- graph: a builder at its start; its fuel and its parameters. -/
namespace Go.Proofs.YtnbpgipbfejllaaDoor
open Go.RowKit Go.Lib
set_option linter.unusedVariables false
set_option linter.unusedSimpArgs false

theorem own_zero_off {w : World} {base n size c : Nat} {e : TypeId} {A : Option Addr} {xs : List Value} (h : w.ownsRow base e size (.slice A n c) n xs) : ∀ a, A = some a → a = ⟨a.block, 0, none⟩ := by
  rintro a rfl
  rcases h.2 with ⟨h1, _⟩ | ⟨g, cap, cur, h1, _⟩
  · cases h1
  · injection h1 with h1 _ _
    injection h1 with h1
    rw [h1]
def T0 : TR := ⟨0, 0, [], []⟩
section
variable {n : Nat} {w0 w W : World} {p m : Nat} {T : TR} {fu pa : Int} {C : List (Nat × Obj)}
theorem BD.setH (h : BD n w0 p m T fu pa C w) (i : Nat) (v fu' pa' : Int) (hi : i = 5 ∧ fu' = v ∧ pa' = pa ∨ i = 6 ∧ fu' = fu ∧ pa' = v) : BD n w0 p m T fu' pa' C (w.setCell ⟨p, i, none⟩ (.int .i64 v)) := by
  obtain ⟨A, ca, E, ce, R, X, h⟩ := h
  have hk : Keep (fun k => k = p) w (w.setCell ⟨p, i, none⟩ (.int .i64 v)) := keep_set (Keep.refl _ w) i _
  obtain ⟨cm, hcm⟩ := h.num.obj
  refine ⟨A, ca, E, ce, R, X, h.turn hk (fun k e => .inl (.inl e)) ?_ (h.num.keep hk ?_ (fun k e => by subst e; exact h.low)) (hk.own h.rowA (fun k e => blk_own_ne h.hdr h.rowA e (by decide))) (hk.own h.rowE (fun k e => blk_own_ne h.hdr h.rowE e (by decide))) (fun _ => .inl) (fun _ => .inl) h.ins h.exits (fun _ => .inl) (fun _ => .inl)⟩
  · have h5 := blk_set h.hdr i (.int .i64 v)
    rcases hi with ⟨rfl, rfl, rfl⟩ | ⟨rfl, rfl, rfl⟩
    · exact h5
    · exact h5
  · rintro rfl
    have := h.hdr
    rw [hcm] at this
    injection this with this
    injection this with _ this
    revert this
    decide
theorem bd_init {A : Option Addr} {nl cl : Nat} {xs : List Int} (hA : IntsAt W A nl xs) (hnl : nl ≤ 140737488351232) (o : Obj) :
    BD W.heap.size W (W.heap.size + 2) (W.heap.size + 1) T0 0 0 [(W.heap.size, o)] (((W.alloc o).alloc (.cells #[.slice A nl cl, .int .i64 0] 125)).alloc (.cells #[.pointer (some ⟨W.heap.size + 1, 0, none⟩), .int .i64 0, .int .i64 0, .slice none 0 0, .slice none 0 0, .int .i64 0, .int .i64 0] 127)) := by
  have k1 := (Keep.refl (fun _ => False) W).alloc' o
  have k2 := k1.alloc' (.cells #[.slice A nl cl, .int .i64 0] 125)
  have k3 := k2.alloc' (.cells #[.pointer (some ⟨W.heap.size + 1, 0, none⟩), .int .i64 0, .int .i64 0, .slice none 0 0, .slice none 0 0, .int .i64 0, .int .i64 0] 127)
  have hp := heap_alloc_new ((W.alloc o).alloc (.cells #[.slice A nl cl, .int .i64 0] 125)) (.cells #[.pointer (some ⟨W.heap.size + 1, 0, none⟩), .int .i64 0, .int .i64 0, .slice none 0 0, .slice none 0 0, .int .i64 0, .int .i64 0] 127)
  have hm := heap_alloc_new (W.alloc o) (.cells #[.slice A nl cl, .int .i64 0] 125)
  have ho := heap_alloc_new W o
  rw [World.size_alloc, World.size_alloc] at hp
  rw [World.size_alloc] at hm
  refine ⟨none, 0, none, 0, [], [], ⟨hp, ⟨A, nl, cl, xs, 0, alloc_old' hm, Nat.zero_le _, hnl, ?_, ?_, by omega⟩, World.ownsRow_nil _ _ _ _, World.ownsRow_nil _ _ _ _, by simp, by simp, rfl, rfl, Since.of k3, by omega, Nat.le_refl _, ?_⟩⟩
  · exact CellsAt.keep hA k3 (fun _ _ => id)
  · rintro h0 b rfl
    obtain ⟨b', off, e, hl, _⟩ := hA.2.2 h0
    obtain rfl := Option.some.inj e
    exact hl
  · intro x hx
    obtain rfl := List.mem_singleton.1 hx
    refine ⟨alloc_old' (alloc_old' ho), fun hf => ?_⟩
    rcases hf with e | e | e | e
    · simp only at e; omega
    · simp only at e; omega
    · simp [Value.ownBlock] at e
    · simp [Value.ownBlock] at e
theorem BD.swap {b : Nat} {cs cs' : Array Value} {t : TypeId} (h : BD n w0 p m T fu pa ((b, .cells cs t (0, 0)) :: C) w) {w' : World} (hk : Keep (fun k => k = b) w w') (hb' : w'.heap[b]? = some (.cells cs' t (0, 0)))
    (ht : t ≠ 3 ∧ t ≠ 9 ∧ t ≠ 95) (hC : ∀ x ∈ C, x.1 ≠ b) (hn : n ≤ b) : BD n w0 p m T fu pa ((b, .cells cs' t (0, 0)) :: C) w' := by
  obtain ⟨A, ca, E, ce, R, X, h⟩ := h
  obtain ⟨hb, hf⟩ := h.objs _ (.head _)
  dsimp only at hb hf
  have hbt : ∀ t' : TypeId, t ≠ t' → ∀ g cur, w.heap[g]? = some (.cells cur t' (0, 0)) → ¬ g = b := by
    intro t' ht' g cur hg e
    subst e
    rw [hb] at hg
    injection hg with hg
    injection hg with _ e
    exact ht' e
  have hne : ∀ k, bfoot p m (.slice A R.length ca) (.slice E X.length ce) k → ¬ k = b := fun k hk e => hf (e ▸ hk)
  refine ⟨A, ca, E, ce, R, X, ⟨(hk.block p (blk_lt h.hdr) (hne p (.inl rfl))).trans h.hdr, h.num.keep hk (hne m (.inr (.inl rfl))) (fun k e => by subst e; exact hn), hk.own h.rowA (fun k e => hne k (.inr (.inr (.inl e)))), hk.own h.rowE (fun k e => hne k (.inr (.inr (.inr e)))),
    fun r hr => (h.fitR r hr).keep hk (hbt _ ht.1) (hbt _ ht.2.1), fun r hr => (h.fitX r hr).keep hk (hbt _ ht.1) (hbt _ ht.2.2), h.ins, h.exits, Keep.trans h.since (Keep.mono hk (fun k e => by subst e; exact hn)), h.low, h.base, fun x hx => ?_⟩⟩
  rcases List.mem_cons.1 hx with rfl | hx
  · exact ⟨hb', hf⟩
  · obtain ⟨a, c⟩ := h.objs x (.tail _ hx)
    exact ⟨(hk.block _ (blk_lt a) (hC x hx)).trans a, c⟩
theorem BD.fill14 {b : Nat} {e0 e1 e2 e3 e4 e5 e6 e7 e8 e9 e10 e11 e12 e13 : Value} (h : BD n w0 p m T fu pa ((b, .cells #[e0, e1, e2, e3, e4, e5, e6, e7, e8, e9, e10, e11, e12, e13] 60 (0, 0)) :: C) W) (hC : ∀ x ∈ C, x.1 ≠ b) (hn : n ≤ b) (c0 c1 c2 c3 c4 c5 c6 c7 c8 c9 c10 c11 c12 c13 : Value) :
    BD n w0 p m T fu pa ((b, .cells #[c0, c1, c2, c3, c4, c5, c6, c7, c8, c9, c10, c11, c12, c13] 60 (0, 0)) :: C) ((((((((((((((W.setCell ⟨b, 0, none⟩ c0).setCell ⟨b, 1, none⟩ c1).setCell ⟨b, 2, none⟩ c2).setCell ⟨b, 3, none⟩ c3).setCell ⟨b, 4, none⟩ c4).setCell ⟨b, 5, none⟩ c5).setCell ⟨b, 6, none⟩ c6).setCell ⟨b, 7, none⟩ c7).setCell ⟨b, 8, none⟩ c8).setCell ⟨b, 9, none⟩ c9).setCell ⟨b, 10, none⟩ c10).setCell ⟨b, 11, none⟩ c11).setCell ⟨b, 12, none⟩ c12).setCell ⟨b, 13, none⟩ c13) := by
  have hb := h.at_ (.head _)
  dsimp only at hb
  have h5 := blk_set (blk_set (blk_set (blk_set (blk_set (blk_set (blk_set (blk_set (blk_set (blk_set (blk_set (blk_set (blk_set (blk_set (hb) 0 c0) 1 c1) 2 c2) 3 c3) 4 c4) 5 c5) 6 c6) 7 c7) 8 c8) 9 c9) 10 c10) 11 c11) 12 c12) 13 c13
  simp only [List.setIfInBounds_toArray, List.set_cons_zero, List.set_cons_succ] at h5
  exact h.swap (keep_set (keep_set (keep_set (keep_set (keep_set (keep_set (keep_set (keep_set (keep_set (keep_set (keep_set (keep_set (keep_set (keep_set (Keep.refl (fun k => k = b) W) 0 c0) 1 c1) 2 c2) 3 c3) 4 c4) 5 c5) 6 c6) 7 c7) 8 c8) 9 c9) 10 c10) 11 c11) 12 c12) 13 c13) h5 ⟨by decide, by decide, by decide⟩ hC hn
/-- What the builder holds, as a value. -/
theorem BD.trace (h : BD n w0 p m T fu pa C w) (hl : T.ins.length ≤ 1000) (hx : T.exits.length ≤ 1000) : ∃ A ca E ce, w.heap[p]? = some (.cells #[.pointer (some ⟨m, 0, none⟩), .int .i64 T.pf, .int .i64 T.pl, .slice A T.ins.length ca, .slice E T.exits.length ce, .int .i64 fu, .int .i64 pa] 127 (0, 0)) ∧
    ∀ (w' : World) (r : Nat) (rc : Array Value), w.heap[r]? = some (.cells rc 31 (0, 0)) → Keep (fun k => k = r) w w' → TraceAt w' (.agg #[.int .i64 T.pf, .int .i64 T.pl, .slice A T.ins.length ca, .slice E T.exits.length ce]) T := by
  obtain ⟨A, ca, E, ce, R, X, h⟩ := h
  have e1 : R.length = T.ins.length := by rw [← h.ins, List.length_map]
  have e2 : X.length = T.exits.length := by rw [← h.exits, List.length_map]
  refine ⟨A, ca, E, ce, by rw [← e1, ← e2]; exact h.hdr, fun w' r rc hr hk => ?_⟩
  have ht : ∀ t' : TypeId, 31 ≠ t' → ∀ g cur, w.heap[g]? = some (.cells cur t' (0, 0)) → ¬ g = r := by
    intro t' ht' g cur hg e
    subst e
    rw [hr] at hg
    injection hg with hg
    injection hg with _ e
    exact ht' e
  have l1 := (Lies.own h.rowA (by decide) (by omega)).keep hk (ht _ (by decide))
  have l2 := (Lies.own h.rowE (by decide) (by omega)).keep hk (ht _ (by decide))
  exact ⟨A, ca, E, ce, R, X, by rw [e1, e2], l1, l2, fun x hx => (h.fitR x hx).keep hk (ht _ (by decide)) (ht _ (by decide)), fun x hx => (h.fitX x hx).keep hk (ht _ (by decide)) (ht _ (by decide)), h.ins, h.exits, own_zero_off h.rowA, own_zero_off h.rowE⟩
theorem BD.sinceW (h : BD n w0 p m T fu pa C w) : Since n w0 w := by
  obtain ⟨_, _, _, _, _, _, h⟩ := h
  exact h.since
theorem BD.num2 {b : Nat} {cs cs' : Array Value} {t : TypeId} (h : BD n w0 p m T fu pa ((b, .cells cs t (0, 0)) :: C) w) {w' : World} (hk : Keep (fun k => k = m ∨ k = b ∨ w.heap.size ≤ k) w w') (nu : NU n w' m) (hb' : w'.heap[b]? = some (.cells cs' t (0, 0)))
    (ht : t ≠ 3 ∧ t ≠ 9 ∧ t ≠ 95) (hC : ∀ x ∈ C, x.1 ≠ b) (hn : n ≤ b) : BD n w0 p m T fu pa ((b, .cells cs' t (0, 0)) :: C) w' := by
  obtain ⟨A, ca, E, ce, R, X, h⟩ := h
  obtain ⟨hb, hf⟩ := h.objs _ (.head _)
  dsimp only at hb hf
  obtain ⟨cm, hcm⟩ := h.num.obj
  have hlow : n ≤ w.heap.size := Nat.le_trans h.base h.since.size
  have hbt : ∀ t' : TypeId, t ≠ t' → 125 ≠ t' → ∀ g cur, w.heap[g]? = some (.cells cur t' (0, 0)) → ¬ (g = m ∨ g = b ∨ w.heap.size ≤ g) := by
    rintro t' h1 h2 g cur hg (e | e | e)
    · subst e; rw [hcm] at hg; injection hg with hg; injection hg with _ e; exact h2 e
    · subst e; rw [hb] at hg; injection hg with hg; injection hg with _ e; exact h1 e
    · have := blk_lt hg; omega
  have hne : ∀ k, bfoot p m (.slice A R.length ca) (.slice E X.length ce) k → k ≠ m → ¬ (k = m ∨ k = b ∨ w.heap.size ≤ k) := by
    rintro k h1 h2 (e | e | e)
    · exact h2 e
    · exact hf (e ▸ h1)
    · have := (bfoot_lt h h1).2; omega
  have hpm : p ≠ m := by
    rintro rfl
    have h6 := h.hdr
    rw [hcm] at h6
    injection h6 with h6
    injection h6 with _ h6
    revert h6
    decide
  have hFn : ∀ k, (k = m ∨ k = b ∨ w.heap.size ≤ k) → n ≤ k := by
    rintro k (e | e | e)
    · subst e; exact h.num.base
    · subst e; exact hn
    · omega
  refine ⟨A, ca, E, ce, R, X, ⟨(hk.block p (blk_lt h.hdr) (hne p (.inl rfl) hpm)).trans h.hdr, nu, hk.own h.rowA (fun k e => hne k (.inr (.inr (.inl e))) (blk_own_ne hcm h.rowA e (by decide))), hk.own h.rowE (fun k e => hne k (.inr (.inr (.inr e))) (blk_own_ne hcm h.rowE e (by decide))),
    fun r hr => (h.fitR r hr).keep hk (hbt _ ht.1 (by decide)) (hbt _ ht.2.1 (by decide)), fun r hr => (h.fitX r hr).keep hk (hbt _ ht.1 (by decide)) (hbt _ ht.2.2 (by decide)), h.ins, h.exits, Keep.trans h.since (Keep.mono hk hFn), h.low, h.base, fun x hx => ?_⟩⟩
  rcases List.mem_cons.1 hx with rfl | hx
  · exact ⟨hb', hf⟩
  · obtain ⟨a, c⟩ := h.objs x (.tail _ hx)
    refine ⟨(hk.block _ (blk_lt a) (fun hh => ?_)).trans a, c⟩
    rcases hh with e | e | e
    · exact c (.inr (.inl e))
    · exact hC x hx e
    · have := blk_lt a; omega
end
/-- The last instruction's arguments, while they are gathered. -/
def X20 (A : Option Addr) (j c : Nat) : Array Value := #[.int .i64 20, .int .i64 0, .int .i64 0, .int .i64 0, .int .i64 0, .slice A j c, .int .i64 0, .int .i64 0, .string ⟨#[]⟩, .slice none 0 0, .int .i64 0, .int .i64 0, .int .i64 (-1), .bool false]
structure LQ (n m b : Nat) (wf : World) (T : TR) (j : Nat) (A : Option Addr) (c : Nat) (W : World) : Prop where
  nu : NU n W m
  keep : Keep (fun i => i = m ∨ i = b ∨ wf.heap.size ≤ i) wf W
  blk : W.heap[b]? = some (.cells (X20 A j c) 60 (0, 0))
  row : ∃ vs : List Int, vs.length = j ∧ (∀ v ∈ vs, VB T T.ins.length v) ∧ W.ownsRow wf.heap.size 3 1 (.slice A j c) j (ints vs)
theorem LQ.num {n m b : Nat} {wf : World} {T : TR} {j : Nat} {A : Option Addr} {c : Nat} {W W' : World} (h : LQ n m b wf T j A c W) (hk : Keep (fun i => i = m) W W') (nu : NU n W' m) : LQ n m b wf T j A c W' := by
  obtain ⟨vs, a, b', c'⟩ := h.row
  obtain ⟨cm, hcm⟩ := h.nu.obj
  exact ⟨nu, Keep.trans h.keep (Keep.mono hk (fun _ => .inl)), (hk.block _ (blk_lt h.blk) (obj_ne h.blk hcm (by decide))).trans h.blk, ⟨vs, a, b', hk.own c' (fun i e => blk_own_ne hcm c' e (by decide))⟩⟩
theorem LQ.push {n m b : Nat} {wf : World} {T : TR} {j : Nat} {A : Option Addr} {c : Nat} {W : World} (h : LQ n m b wf T j A c W) {vs : List Int} (hvl : vs.length = j) (hvs : ∀ v ∈ vs, VB T T.ins.length v) (h0 : W.ownsRow wf.heap.size 3 1 (.slice A j c) j (ints vs))
    {W3 : World} {v : Int} (hv : VB T T.ins.length v) (hn : n ≤ b) {A' : Option Addr} {c' : Nat} {o : Obj} (hlow : n ≤ wf.heap.size)
    (hown : W3.ownsRow wf.heap.size 3 1 (.slice A' (j + 1) c') (j + 1) (ints vs ++ ints [v])) (hgr : (W.alloc o).grownBy W3 (Value.slice A j c).ownBlock) :
    W3.heap[b]? = some (.cells (X20 A j c) 60 (0, 0)) ∧ LQ n m b wf T (j + 1) A' c' (W3.setCell ⟨b, 5, none⟩ (.slice A' (j + 1) c')) := by
  have hk3 : Keep (fun i => (Value.slice A j c).ownBlock = some i) W W3 := Keep.trans (Keep.mono ((Keep.refl (fun _ => False) W).alloc' o) (fun _ => False.elim)) (own_keep' hgr)
  obtain ⟨cm, hcm⟩ := h.nu.obj
  have hb3 := (hk3.block b (blk_lt h.blk) (fun hf => blk_own_ne h.blk h0 hf (by decide) rfl)).trans h.blk
  have hm3 := (hk3.block m (blk_lt hcm) (fun hf => blk_own_ne hcm h0 hf (by decide) rfl)).trans hcm
  refine ⟨hb3, ?_, ?_, ?_, ⟨vs ++ [v], by simp [hvl], fun u hu => ?_, ?_⟩⟩
  · refine (h.nu.keep hk3 (fun hf => blk_own_ne hcm h0 hf (by decide) rfl) (fun i e => Nat.le_trans hlow (own_low h0 e))).keep (keep_set (Keep.refl (fun i => i = b) W3) 5 _) (obj_ne hm3 hb3 (by decide)) (fun i e => by subst e; exact hn)
  · exact Keep.trans (h.keep.then (Keep.mono hk3 (F' := fun i => wf.heap.size ≤ i) (fun i e => own_low h0 e)) (fun i e => .inl (.inr (.inr e)))) (Keep.mono (keep_set (Keep.refl (fun i => i = b) W3) 5 _) (fun i e => .inr (.inl e)))
  · exact blk_set hb3 5 _
  · rcases List.mem_append.1 hu with hu | hu
    · exact hvs u hu
    · rw [List.mem_singleton.1 hu]; exact hv
  · rw [ints_append]
    exact (keep_set (Keep.refl (fun i => i = b) W3) 5 _).own hown (fun i e => blk_own_ne hb3 hown e (by decide))
/-- A trace that is right (as the builder makes them). -/
structure RightT (P : Nat) (T : TR) : Prop where
  good : GoodT P T
  p1 : 1 ≤ P ∧ P ≤ 4
  par : P < T.ins.length
  few : T.ins.length ≤ 60
  last : ∀ k, k < T.ins.length → (((T.at_ k).op = 20 ∨ (T.at_ k).op = 21) ↔ k + 1 = T.ins.length)
theorem RightT.of {P : Nat} {T : TR} {x : TI} (hg : GoodT P (T.push x)) (hb : Body T) (hp : 1 ≤ P ∧ P ≤ 4) (hl : P ≤ T.ins.length) (hf : T.ins.length ≤ 59) (hx : x.op = 20 ∨ x.op = 21) : RightT P (T.push x) := by
  refine ⟨hg, hp, by rw [push_len]; omega, by rw [push_len]; omega, fun k hk => ?_⟩
  rw [push_len] at hk ⊢
  by_cases h : k < T.ins.length
  · rw [at_push h]
    have := hb k h
    constructor
    · rintro (e | e)
      · exact absurd e this.1
      · exact absurd e this.2
    · intro e; omega
  · obtain rfl : k = T.ins.length := by omega
    rw [at_last]
    exact ⟨fun _ => rfl, fun _ => hx⟩
end Go.Proofs.YtnbpgipbfejllaaDoor
/- graph: a trace is read. -/
namespace Go.Proofs.YtnbpgipbfejllaaDoor
open Go.RowKit
set_option linter.unusedVariables false
set_option linter.unusedSimpArgs false

/-- A trace, its rows opened. -/
structure TA (w : World) (A : Option Addr) (ca : Nat) (E : Option Addr) (ce : Nat) (R : List RI) (X : List RX) (T : TR) : Prop where
  lieR : Lies w A (R.length * 14) (rowI R) 60
  lieX : Lies w E (X.length * 3) (rowX X) 83
  fitR : ∀ r ∈ R, r.Fits w
  fitX : ∀ r ∈ X, r.Fits w
  ins : R.map (·.x) = T.ins
  exits : X.map (·.x) = T.exits
  offA : ∀ a, A = some a → a = ⟨a.block, 0, none⟩
  offE : ∀ a, E = some a → a = ⟨a.block, 0, none⟩
def trV (A : Option Addr) (ca : Nat) (E : Option Addr) (ce : Nat) (T : TR) : Value := .agg #[.int .i64 T.pf, .int .i64 T.pl, .slice A T.ins.length ca, .slice E T.exits.length ce]
section
variable {w w' : World} {A : Option Addr} {ca : Nat} {E : Option Addr} {ce : Nat} {R : List RI} {X : List RX} {T : TR}
theorem TA.lenR (h : TA w A ca E ce R X T) : R.length = T.ins.length := by rw [← h.ins, List.length_map]
theorem TA.lenX (h : TA w A ca E ce R X T) : X.length = T.exits.length := by rw [← h.exits, List.length_map]
theorem TraceAt.opened {v : Value} (h : TraceAt w v T) : ∃ A ca E ce R X, v = trV A ca E ce T ∧ TA w A ca E ce R X T := by
  obtain ⟨A, ca, E, ce, R, X, h0, h1, h2, h3, h4, h5, h6, h7, h8⟩ := h
  refine ⟨A, ca, E, ce, R, X, ?_, ⟨h1, h2, h3, h4, h5, h6, h7, h8⟩⟩
  rw [h0, trV, ← h5, ← h6, List.length_map, List.length_map]
theorem TA.since (h : TA w A ca E ce R X T) (hk : Since w.heap.size w w') : TA w' A ca E ce R X T := by
  have hn : ∀ (t : TypeId) g cur, w.heap[g]? = some (.cells cur t (0, 0)) → ¬ w.heap.size ≤ g := fun t g cur hg hf => by have := blk_lt hg; omega
  exact ⟨h.lieR.since hk, h.lieX.since hk, fun r hr => (h.fitR r hr).keep hk (hn _) (hn _), fun r hr => (h.fitX r hr).keep hk (hn _) (hn _), h.ins, h.exits, h.offA, h.offE⟩
theorem TA.quiet (h : TA w A ca E ce R X T) (hk : Keep (fun _ => False) w w') : TA w' A ca E ce R X T := h.since (Since.of hk)
/-- The cells of the k-th instruction. -/
theorem TA.cellsI (h : TA w A ca E ce R X T) {k : Nat} (hk : k < T.ins.length) : ∃ g, A = some ⟨g, 0, none⟩ ∧ (∃ cur, w.heap[g]? = some (.cells cur 60 (0, 0))) ∧ (R.getD k RI.dflt).x = T.at_ k ∧ R.getD k RI.dflt ∈ R ∧ ∀ i, i < 14 → w.cell? ⟨g, k * 14 + i, none⟩ = some ((R.getD k RI.dflt).cells.getD i undef) := by
  have hR := h.lenR
  have hkR : k < R.length := by omega
  obtain ⟨g, o, cur, e, hg⟩ := h.lieR.2 (by omega)
  have e0 := h.offA _ e
  have eo : o = 0 := by have := congrArg Addr.off e0; exact this
  subst eo
  refine ⟨g, e, ⟨cur, hg⟩, ?_, getD_mem hkR, fun i hi => ?_⟩
  · unfold TR.at_
    rw [← h.ins]
    simp [List.getD_eq_getElem?_getD, List.getElem?_map, List.getElem?_eq_getElem hkR]
  · obtain ⟨b, off, e2, _, hx⟩ := h.lieR.1.2.2 (by omega)
    rw [e] at e2
    obtain ⟨rfl, rfl⟩ : g = b ∧ 0 = off := by
      have := Option.some.inj e2
      injection this with a b
      exact ⟨a, b⟩
    have h9 := hx (k * 14 + i) (by have : (k + 1) * 14 ≤ R.length * 14 := Nat.mul_le_mul_right _ hkR; omega)
    rw [Nat.zero_add] at h9
    rw [h9, List.getD_eq_getElem?_getD, rowG_at RI.cells_length RI.dflt R k i hkR hi]
    rfl
end
end Go.Proofs.YtnbpgipbfejllaaDoor
/- graph: the parameters of a right trace; its values. -/
namespace Go.Proofs.YtnbpgipbfejllaaDoor
open Go.RowKit
set_option linter.unusedVariables false
set_option linter.unusedSimpArgs false

theorem RightT.op1 {P : Nat} {T : TR} (h : RightT P T) {k : Nat} (hk : k < T.ins.length) : (T.at_ k).op = 1 ↔ k < P := by
  constructor
  · intro e
    have hs := (h.good.shape k hk).1
    generalize T.at_ k = x at hs e
    cases hs with
    | param a => exact a
    | _ => simp at e
  · exact (h.good.shape k hk).2
section
variable {w : World} {A : Option Addr} {ca : Nat} {E : Option Addr} {ce : Nat} {R : List RI} {X : List RX} {T : TR}
theorem TA.opAt (h : TA w A ca E ce R X T) {k : Nat} (hk : k < T.ins.length) : ∃ g, A = some ⟨g, 0, none⟩ ∧ w.cell? ⟨g, k * 14, none⟩ = some (.int .i64 (T.at_ k).op) := by
  obtain ⟨g, e, _, hx, _, hc⟩ := h.cellsI hk
  refine ⟨g, e, (hc 0 (by omega)).trans ?_⟩
  rw [← hx]
  rfl
set_option maxRecDepth 100000 in
set_option maxHeartbeats 2000000 in
theorem params_any {P : Nat} (h : TA w A ca E ce R X T) (hr : RightT P T) : Calls Tryd.prog 83 #[trV A ca E ce T] w fun e w' => e = .returned (.int .i64 (P : Int)) ∧ Keep (fun _ => False) w w' := by
  have HK := Lib.hid ((Keep.refl (fun _ => False) w).alloc' (.cells #[.int .i64 T.pf, .int .i64 T.pl, .slice A T.ins.length ca, .slice E T.exits.length ce] 31))
  have H1 := Lib.hid (h.quiet HK.out)
  have HB := Lib.hid (heap_alloc_new w (.cells #[.int .i64 T.pf, .int .i64 T.pl, .slice A T.ins.length ca, .slice E T.exits.length ce] 31))
  have HR := Lib.hid hr
  have hP := hr.par
  have hF := hr.few
  obtain ⟨N, hN⟩ : ∃ N, T.ins.length = N := ⟨_, rfl⟩
  have HO := Lib.hid (fun k (hk : k < N) => (show _ from HR.out.op1 (k := k) (by omega)))
  have HA := Lib.hid (fun k (hk : k < N) => H1.out.opAt (k := k) (by omega))
  unfold trV
  rw [hN] at HK HB hP hF HA ⊢
  have HN := Lib.hid hN
  clear h hr hN H1
  obtain ⟨g, rfl, _⟩ := HA.out 0 (by omega)
  go_enter Tryd.func83, Tryd.ntmps83
  go_wp2_with fail
  obtain ⟨q, hq⟩ : ∃ q, w.heap.size = q := ⟨_, rfl⟩
  obtain ⟨w1, hw1⟩ : ∃ w1 : World, w.alloc (.cells #[.int .i64 T.pf, .int .i64 T.pl, .slice (some ⟨g, 0, none⟩) N ca, .slice E T.exits.length ce] 31) = w1 := ⟨_, rfl⟩
  rw [hw1] at HK HB HA
  rw [hq] at HB
  rw [hw1, hq]
  clear hw1 hq
  go_loopw [3] (fun i wr => ∃ k : Nat, k ≤ P ∧ i = .int .i64 (k : Int) ∧ Hid (w1 = wr)) (fun i _ => P + 1 - (RowKit.intOf i).toNat)
  case atStart => exact ⟨0, Nat.zero_le _, rfl, Lib.hid rfl⟩
  case round =>
    obtain ⟨k, hk, rfl, HW⟩ := hrel
    obtain ⟨wo, rfl⟩ : ∃ wo : World, wo = wr := ⟨_, rfl⟩
    obtain rfl := HW.out
    have c2 := (blk_cell HB.out 2).trans rfl
    obtain ⟨g', e', x0⟩ := HA.out k (by omega)
    obtain ⟨rfl⟩ : g' = g := by
      have := Option.some.inj e'
      injection this with a
      exact a.symm
    have hop := HO.out k (by omega)
    have hkN : decide (k < N) = true := by simp; omega
    by_cases hlt : k < P
    · rw [hop.2 hlt] at x0
      clear hop e'
      go_wp2_with fail
      exact ⟨⟨k + 1, by omega, by go_num, Lib.hid trivial⟩, by simp [RowKit.intOf]; omega⟩
    · obtain rfl : k = P := by omega
      obtain ⟨op, hop2⟩ : ∃ op, (T.at_ k).op = op := ⟨_, rfl⟩
      rw [hop2] at hop x0
      have hne : (op == 1) = false := by
        have : op ≠ 1 := fun e => hlt (hop.1 e)
        simpa using this
      clear hop hop2 e'
      go_wp2_with fail
      go_ret
      exact ⟨rfl, HK.out⟩
end
end Go.Proofs.YtnbpgipbfejllaaDoor
/- graph: which operators may have Once, and which have exits. -/
namespace Go.Proofs.YtnbpgipbfejllaaDoor
open Go.RowKit
set_option linter.unusedVariables false
set_option linter.unusedSimpArgs false

def repeatsOp (op : Int) : Bool := op == 2 || (op == 3 || (op == 4 || (op == 5 || (op == 6 || (op == 7 || (op == 8 || (op == 9 || (op == 10 || (op == 12 || (op == 14))))))))))
def leavesOp (op : Int) : Int := if (op == 3 || (op == 4)) = true then 1 else if (op == 5 || (op == 6 || (op == 7 || (op == 8 || (op == 9 || (op == 15 || (op == 18 || (op == 21)))))))) = true then 2 else 0
set_option maxRecDepth 100000 in
theorem repeats_any (op : Int) (w : World) : Calls Tryd.prog 81 #[.int .i64 op] w fun e w' => e = .returned (.bool (repeatsOp op)) ∧ w = w' := by
  by_cases h2 : op = 2
  · subst h2
    go_enter Tryd.func81, Tryd.ntmps81
    go_wp2_with fail
    go_ret
    exact ⟨rfl, rfl⟩
  have b2 : (op == 2) = false := by simpa using h2
  by_cases h3 : op = 3
  · subst h3
    go_enter Tryd.func81, Tryd.ntmps81
    go_wp2_with fail
    go_ret
    exact ⟨rfl, rfl⟩
  have b3 : (op == 3) = false := by simpa using h3
  by_cases h4 : op = 4
  · subst h4
    go_enter Tryd.func81, Tryd.ntmps81
    go_wp2_with fail
    go_ret
    exact ⟨rfl, rfl⟩
  have b4 : (op == 4) = false := by simpa using h4
  by_cases h5 : op = 5
  · subst h5
    go_enter Tryd.func81, Tryd.ntmps81
    go_wp2_with fail
    go_ret
    exact ⟨rfl, rfl⟩
  have b5 : (op == 5) = false := by simpa using h5
  by_cases h6 : op = 6
  · subst h6
    go_enter Tryd.func81, Tryd.ntmps81
    go_wp2_with fail
    go_ret
    exact ⟨rfl, rfl⟩
  have b6 : (op == 6) = false := by simpa using h6
  by_cases h7 : op = 7
  · subst h7
    go_enter Tryd.func81, Tryd.ntmps81
    go_wp2_with fail
    go_ret
    exact ⟨rfl, rfl⟩
  have b7 : (op == 7) = false := by simpa using h7
  by_cases h8 : op = 8
  · subst h8
    go_enter Tryd.func81, Tryd.ntmps81
    go_wp2_with fail
    go_ret
    exact ⟨rfl, rfl⟩
  have b8 : (op == 8) = false := by simpa using h8
  by_cases h9 : op = 9
  · subst h9
    go_enter Tryd.func81, Tryd.ntmps81
    go_wp2_with fail
    go_ret
    exact ⟨rfl, rfl⟩
  have b9 : (op == 9) = false := by simpa using h9
  by_cases h10 : op = 10
  · subst h10
    go_enter Tryd.func81, Tryd.ntmps81
    go_wp2_with fail
    go_ret
    exact ⟨rfl, rfl⟩
  have b10 : (op == 10) = false := by simpa using h10
  by_cases h12 : op = 12
  · subst h12
    go_enter Tryd.func81, Tryd.ntmps81
    go_wp2_with fail
    go_ret
    exact ⟨rfl, rfl⟩
  have b12 : (op == 12) = false := by simpa using h12
  by_cases h14 : op = 14
  · subst h14
    go_enter Tryd.func81, Tryd.ntmps81
    go_wp2_with fail
    go_ret
    exact ⟨rfl, rfl⟩
  have b14 : (op == 14) = false := by simpa using h14
  have hh : repeatsOp op = false := by unfold repeatsOp; simp only [b2, b3, b4, b5, b6, b7, b8, b9, b10, b12, b14]; rfl
  rw [hh]
  clear hh
  go_enter Tryd.func81, Tryd.ntmps81
  go_wp2_with fail
  go_ret
  exact ⟨rfl, rfl⟩
set_option maxRecDepth 100000 in
theorem leaves_any (op : Int) (w : World) : Calls Tryd.prog 86 #[.int .i64 op] w fun e w' => e = .returned (.int .i64 (leavesOp op)) ∧ w = w' := by
  by_cases h3 : op = 3
  · subst h3
    go_enter Tryd.func86, Tryd.ntmps86
    go_wp2_with fail
    go_ret
    exact ⟨rfl, rfl⟩
  have b3 : (op == 3) = false := by simpa using h3
  by_cases h4 : op = 4
  · subst h4
    go_enter Tryd.func86, Tryd.ntmps86
    go_wp2_with fail
    go_ret
    exact ⟨rfl, rfl⟩
  have b4 : (op == 4) = false := by simpa using h4
  by_cases h5 : op = 5
  · subst h5
    go_enter Tryd.func86, Tryd.ntmps86
    go_wp2_with fail
    go_ret
    exact ⟨rfl, rfl⟩
  have b5 : (op == 5) = false := by simpa using h5
  by_cases h6 : op = 6
  · subst h6
    go_enter Tryd.func86, Tryd.ntmps86
    go_wp2_with fail
    go_ret
    exact ⟨rfl, rfl⟩
  have b6 : (op == 6) = false := by simpa using h6
  by_cases h7 : op = 7
  · subst h7
    go_enter Tryd.func86, Tryd.ntmps86
    go_wp2_with fail
    go_ret
    exact ⟨rfl, rfl⟩
  have b7 : (op == 7) = false := by simpa using h7
  by_cases h8 : op = 8
  · subst h8
    go_enter Tryd.func86, Tryd.ntmps86
    go_wp2_with fail
    go_ret
    exact ⟨rfl, rfl⟩
  have b8 : (op == 8) = false := by simpa using h8
  by_cases h9 : op = 9
  · subst h9
    go_enter Tryd.func86, Tryd.ntmps86
    go_wp2_with fail
    go_ret
    exact ⟨rfl, rfl⟩
  have b9 : (op == 9) = false := by simpa using h9
  by_cases h15 : op = 15
  · subst h15
    go_enter Tryd.func86, Tryd.ntmps86
    go_wp2_with fail
    go_ret
    exact ⟨rfl, rfl⟩
  have b15 : (op == 15) = false := by simpa using h15
  by_cases h18 : op = 18
  · subst h18
    go_enter Tryd.func86, Tryd.ntmps86
    go_wp2_with fail
    go_ret
    exact ⟨rfl, rfl⟩
  have b18 : (op == 18) = false := by simpa using h18
  by_cases h21 : op = 21
  · subst h21
    go_enter Tryd.func86, Tryd.ntmps86
    go_wp2_with fail
    go_ret
    exact ⟨rfl, rfl⟩
  have b21 : (op == 21) = false := by simpa using h21
  have hh : leavesOp op = 0 := by unfold leavesOp; simp only [b3, b4, b5, b6, b7, b8, b9, b15, b18, b21]; rfl
  rw [hh]
  clear hh
  go_enter Tryd.func86, Tryd.ntmps86
  go_wp2_with fail
  go_ret
  exact ⟨rfl, rfl⟩
section
variable {w : World} {A : Option Addr} {ca : Nat} {E : Option Addr} {ce : Nat} {R : List RI} {X : List RX} {T : TR}
set_option maxRecDepth 100000 in
set_option maxHeartbeats 2000000 in
/-- A value before k is one. -/
theorem isval_any (h : TA w A ca E ce R X T) {k : Nat} {v : Int} (hv : VB T k v) (hk : k ≤ T.ins.length) (hl : T.ins.length ≤ 1000) : Calls Tryd.prog 85 #[trV A ca E ce T, .int .i64 v, .int .i64 (k : Int)] w fun e w' => e = .returned (.bool true) ∧ Keep (fun _ => False) w w' := by
  obtain ⟨u, rfl, hu, hop⟩ := hv
  have HK := Lib.hid ((Keep.refl (fun _ => False) w).alloc' (.cells #[.int .i64 T.pf, .int .i64 T.pl, .slice A T.ins.length ca, .slice E T.exits.length ce] 31))
  have HB := Lib.hid (heap_alloc_new w (.cells #[.int .i64 T.pf, .int .i64 T.pl, .slice A T.ins.length ca, .slice E T.exits.length ce] 31))
  obtain ⟨g, rfl, x0⟩ := (h.quiet HK.out).opAt (k := u) (by omega)
  have hop2 : hasOp (T.at_ u).op = true := hop
  obtain ⟨op, ho⟩ : ∃ op, (T.at_ u).op = op := ⟨_, rfl⟩
  rw [ho] at x0 hop2
  have HH := Lib.hid (fun W : World => has_any op W)
  rw [hop2] at HH
  have hb1 : decide (u < k) = true := by simpa using hu
  obtain ⟨N, hN⟩ : ∃ N, T.ins.length = N := ⟨_, rfl⟩
  unfold trV
  rw [hN] at HK HB x0 hk hl ⊢
  clear h hop hop2 ho hN
  go_enter Tryd.func85, Tryd.ntmps85
  go_upto_region 1 with (fail)
  obtain ⟨q, hq⟩ : ∃ q, w.heap.size = q := ⟨_, rfl⟩
  obtain ⟨w1, hw1⟩ : ∃ w1 : World, w.alloc (.cells #[.int .i64 T.pf, .int .i64 T.pl, .slice (some ⟨g, 0, none⟩) N ca, .slice E T.exits.length ce] 31) = w1 := ⟨_, rfl⟩
  rw [hw1] at HK HB x0
  rw [hq] at HB
  rw [hw1, hq]
  clear hw1 hq
  have c2 := (blk_cell HB.out 2).trans rfl
  go_wp2_with fail
  ((with_reducible refine (HH.out _).mono ?_); rintro ee w' ⟨rfl, rfl⟩)
  go_wp2_with fail
  go_ret
  exact ⟨rfl, HK.out⟩
end
end Go.Proofs.YtnbpgipbfejllaaDoor
/- graph: lists that are alike; numbers within bounds. -/
namespace Go.Proofs.YtnbpgipbfejllaaDoor
open Go.RowKit
set_option linter.unusedVariables false
set_option linter.unusedSimpArgs false

theorem strs_getD (l : List Bytes) {k : Nat} (h : k < l.length) : (strs l).getD k undef = .string (sb (l.getD k [])) := by
  unfold strs
  simp [List.getD_eq_getElem?_getD, List.getElem?_map, List.getElem?_eq_getElem h]
set_option maxHeartbeats 2000000 in
set_option maxRecDepth 100000 in
theorem ints_same {w : World} {A1 A2 : Option Addr} {n c1 c2 : Nat} {l : List Int} (h1 : IntsAt w A1 n l) (h2 : IntsAt w A2 n l) :
    Calls Tryd.prog 21 #[.slice A1 n c1, .slice A2 n c2] w fun e w' => e = .returned (.bool true) ∧ Keep (fun _ => False) w w' := by
  have H1 := Lib.hid h1
  have H2 := Lib.hid h2
  have hnb := h1.bound
  clear h1 h2
  go_enter Tryd.func21, Tryd.ntmps21
  go_wp2_with fail
  go_loopw [5] (fun i wr => ∃ k : Nat, k ≤ n ∧ i = .int .i64 (k : Int) ∧ Hid (Keep (fun _ => False) w wr)) (fun i _ => n + 1 - (RowKit.intOf i).toNat)
  case atStart => exact ⟨0, by omega, rfl, Lib.hid (Keep.refl _ _)⟩
  case round =>
    obtain ⟨k, hk, rfl, KK⟩ := hrel
    obtain ⟨wo, rfl⟩ : ∃ wo : World, wo = wr := ⟨_, rfl⟩
    by_cases hlt : k < n
    · have hb : decide (k < n) = true := by simpa using hlt
      obtain ⟨b1, o1, e1, q1⟩ := H1.out.at_ k hlt
      obtain ⟨b2, o2, e2, q2⟩ := H2.out.at_ k hlt
      replace q1 := cell_kept KK.out q1 id
      replace q2 := cell_kept KK.out q2 id
      have HK := Lib.hid (show Keep (fun _ => False) w wo.drew from Keep.trans KK.out (keep_draw _ wo))
      obtain ⟨v, hv⟩ : ∃ v, l.getD k 0 = v := ⟨_, rfl⟩
      rw [hv] at q1 q2
      rw [e1, e2]
      clear e1 e2 hv
      go_wp2_with fail
      go_region
      go_wp2_with fail
      exact ⟨⟨k + 1, by omega, by go_num, HK⟩, by simp [RowKit.intOf]; omega⟩
    · have hb : decide (k < n) = false := by simpa using hlt
      go_wp2_with fail
      go_ret
      exact ⟨rfl, KK.out⟩
set_option maxHeartbeats 2000000 in
set_option maxRecDepth 100000 in
theorem strs_same {w : World} {A1 A2 : Option Addr} {n c1 c2 : Nat} {l : List Bytes} (h1 : CellsAt w A1 n (strs l)) (h2 : CellsAt w A2 n (strs l)) :
    Calls Tryd.prog 72 #[.slice A1 n c1, .slice A2 n c2] w fun e w' => e = .returned (.bool true) ∧ Keep (fun _ => False) w w' := by
  have H1 := Lib.hid h1
  have H2 := Lib.hid h2
  have hnb := h1.bound
  clear h1 h2
  go_enter Tryd.func72, Tryd.ntmps72
  go_wp2_with fail
  go_loopw [5] (fun i wr => ∃ k : Nat, k ≤ n ∧ i = .int .i64 (k : Int) ∧ Hid (Keep (fun _ => False) w wr)) (fun i _ => n + 1 - (RowKit.intOf i).toNat)
  case atStart => exact ⟨0, by omega, rfl, Lib.hid (Keep.refl _ _)⟩
  case round =>
    obtain ⟨k, hk, rfl, KK⟩ := hrel
    obtain ⟨wo, rfl⟩ : ∃ wo : World, wo = wr := ⟨_, rfl⟩
    by_cases hlt : k < n
    · have hb : decide (k < n) = true := by simpa using hlt
      obtain ⟨b1, o1, e1, q1⟩ := H1.out.at_ k hlt
      obtain ⟨b2, o2, e2, q2⟩ := H2.out.at_ k hlt
      replace q1 := cell_kept KK.out q1 id
      replace q2 := cell_kept KK.out q2 id
      have HK := Lib.hid (show Keep (fun _ => False) w wo.drew from Keep.trans KK.out (keep_draw _ wo))
      rw [strs_getD l (by have := H1.out.1; simp [strs] at this; omega)] at q1 q2
      obtain ⟨v, hv⟩ : ∃ v, sb (l.getD k []) = v := ⟨_, rfl⟩
      rw [hv] at q1 q2
      rw [e1, e2]
      clear e1 e2 hv
      go_wp2_with fail
      go_region
      go_wp2_with fail
      exact ⟨⟨k + 1, by omega, by go_num, HK⟩, by simp [RowKit.intOf]; omega⟩
    · have hb : decide (k < n) = false := by simpa using hlt
      go_wp2_with fail
      go_ret
      exact ⟨rfl, KK.out⟩
set_option maxRecDepth 100000 in
theorem within_any (x lo hi : Int) (W : World) : Calls Tryd.prog 97 #[.int .i64 x, .int .i64 lo, .int .i64 hi] W fun e w' => e = .returned (.bool (decide (lo ≤ x) && decide (x ≤ hi))) ∧ W = w' := by
  cases g1 : decide (lo ≤ x) with
  | false =>
    go_enter Tryd.func97, Tryd.ntmps97
    go_wp2_with fail
    go_ret
    exact ⟨rfl, rfl⟩
  | true =>
    cases g2 : decide (x ≤ hi) with
    | false =>
      go_enter Tryd.func97, Tryd.ntmps97
      go_wp2_with fail
      go_ret
      exact ⟨rfl, rfl⟩
    | true =>
      go_enter Tryd.func97, Tryd.ntmps97
      go_wp2_with fail
      go_ret
      exact ⟨rfl, rfl⟩
end Go.Proofs.YtnbpgipbfejllaaDoor
/- graph: what an exit mentions. -/
namespace Go.Proofs.YtnbpgipbfejllaaDoor
open Go.RowKit
set_option linter.unusedVariables false
set_option linter.unusedSimpArgs false

def TX.names (x : TX) (v : Int) : Bool := x.frames.any fun f => decide (v ∈ f.vars)
theorem RX.Fits.frame {w : World} {r : RX} (h : r.Fits w) {k : Nat} (hk : k < r.F.length) : ∃ g o, r.A = some ⟨g, o, none⟩ ∧ w.cell? ⟨g, o + k * 3 + 2, none⟩ = some (.slice (r.F.getD k RF.dflt).A (r.F.getD k RF.dflt).x.vars.length (r.F.getD k RF.dflt).c) ∧ IntsAt w (r.F.getD k RF.dflt).A (r.F.getD k RF.dflt).x.vars.length (r.F.getD k RF.dflt).x.vars := by
  obtain ⟨h1, h2, _⟩ := h
  obtain ⟨g, o, e, _, hx⟩ := h1.1.2.2 (by omega)
  refine ⟨g, o, e, ?_, (h2 _ (getD_mem hk)).1⟩
  have h9 := hx (k * 3 + 2) (by have : (k + 1) * 3 ≤ r.F.length * 3 := Nat.mul_le_mul_right _ hk; omega)
  rw [Nat.add_assoc, h9, List.getD_eq_getElem?_getD, rowG_at RF.cells_length RF.dflt r.F k 2 hk (by omega)]
  rfl
set_option maxRecDepth 100000 in
set_option maxHeartbeats 2000000 in
theorem mentions_any {w : World} (r : RX) (hf : r.Fits w) (hl : r.F.length ≤ 1000) (hv : ∀ f ∈ r.F, f.x.vars.length ≤ 1000000) (v : Int) : Calls Tryd.prog 57 #[.agg r.cells.toArray, .int .i64 v] w fun e w' => e = .returned (.bool (r.x.names v)) ∧ Keep (fun _ => False) w w' := by
  have HK := Lib.hid ((Keep.refl (fun _ => False) w).alloc' (.cells #[.slice r.A r.F.length r.c, .slice none 0 0, .int .i64 r.x.back] 83))
  have HB := Lib.hid (heap_alloc_new w (.cells #[.slice r.A r.F.length r.c, .slice none 0 0, .int .i64 r.x.back] 83))
  have HF := Lib.hid (RX.Fits.keep hf HK.out (fun _ _ _ => id) (fun _ _ _ => id))
  have HV := Lib.hid hv
  have hnm : r.x.names v = r.F.any fun f => decide (v ∈ f.x.vars) := by
    unfold TX.names
    rw [← hf.2.2, List.any_map]
    rfl
  have HNM := Lib.hid hnm
  have HIN := Lib.hid (fun (W : World) (A : Option Addr) (n c : Nat) (l : List Int) (h : IntsAt W A n l) (hn : n ≤ 1000000) => in_any (c := c) h hn v)
  obtain ⟨N, hN⟩ : ∃ N, r.F.length = N := ⟨_, rfl⟩
  unfold RX.cells
  have HFR := Lib.hid (fun k (hk : k < N) => HF.out.frame (k := k) (by omega))
  rw [hN] at HK HB HF hl HFR ⊢
  have HN := Lib.hid hN
  clear hf hv hnm HF hN
  go_enter Tryd.func57, Tryd.ntmps57
  go_wp2_with fail
  obtain ⟨q, hq⟩ : ∃ q, w.heap.size = q := ⟨_, rfl⟩
  obtain ⟨w1, hw1⟩ : ∃ w1 : World, w.alloc (.cells #[.slice r.A N r.c, .slice none 0 0, .int .i64 r.x.back] 83) = w1 := ⟨_, rfl⟩
  rw [hw1] at HK HB HFR
  rw [hq] at HB
  rw [hw1, hq]
  clear hw1 hq
  go_loopw [5] (fun i wr => ∃ k : Nat, k ≤ N ∧ i = .int .i64 (k : Int) ∧ Hid (w1 = wr ∧ ∀ j, j < k → v ∉ (r.F.getD j RF.dflt).x.vars)) (fun i _ => N + 1 - (RowKit.intOf i).toNat)
  case atStart => exact ⟨0, Nat.zero_le _, rfl, Lib.hid ⟨rfl, fun j hj => absurd hj (Nat.not_lt_zero _)⟩⟩
  case round =>
    obtain ⟨k, hk, rfl, HW⟩ := hrel
    obtain ⟨wo, rfl⟩ : ∃ wo : World, wo = wr := ⟨_, rfl⟩
    have HH := Lib.hid HW.out.2
    obtain rfl := HW.out.1
    have c0 := (blk_cell HB.out 0).trans rfl
    have c1 := (blk_cell HB.out 1).trans rfl
    by_cases hlt : k < N
    · have hb : decide (k < N) = true := by simpa using hlt
      obtain ⟨g, o, e, x2, hi⟩ := HFR.out k hlt
      obtain ⟨f, hfe⟩ : ∃ f, r.F.getD k RF.dflt = f := ⟨_, rfl⟩
      have hfm : f ∈ r.F := by rw [← hfe]; exact getD_mem (by rw [HN.out]; exact hlt)
      rw [hfe] at x2 hi
      have HI := Lib.hid (HIN.out _ f.A _ f.c f.x.vars hi (HV.out f hfm))
      have HFE := Lib.hid hfe
      have HFM := Lib.hid hfm
      rw [e] at c0
      try rw [e]
      clear hi hfe hfm e
      go_wp2_with fail
      ((with_reducible refine HI.out.mono ?_); rintro ee w' ⟨rfl, rfl⟩)
      by_cases hm : v ∈ f.x.vars
      · have hmd : decide (v ∈ f.x.vars) = true := by simpa using hm
        have hany : r.x.names v = true := by
          rw [HNM.out, List.any_eq_true]
          exact ⟨f, HFM.out, by simpa using hm⟩
        have HA := Lib.hid hany
        clear hany
        go_wp2_with fail
        go_ret
        exact ⟨by rw [HA.out]; rfl, HK.out⟩
      · have hmd : decide (v ∈ f.x.vars) = false := by simpa using hm
        have HH2 := Lib.hid (show True ∧ ∀ j, j < k + 1 → v ∉ (r.F.getD j RF.dflt).x.vars from ⟨trivial, fun j hj => by
          by_cases h1 : j < k
          · exact HH.out j h1
          · obtain rfl : j = k := by omega
            rw [HFE.out]; exact hm⟩)
        go_wp2_with fail
        exact ⟨⟨k + 1, by omega, by go_num, HH2⟩, by simp [RowKit.intOf]; omega⟩
    · have hb : decide (k < N) = false := by simpa using hlt
      obtain rfl : k = N := by omega
      have hany : r.x.names v = false := by
        rw [HNM.out, List.any_eq_false]
        intro f hfm
        obtain ⟨j, hj, e⟩ := List.getElem_of_mem hfm
        have := HH.out j (by rw [← HN.out]; exact hj)
        rw [List.getD_eq_getElem?_getD, List.getElem?_eq_getElem hj] at this
        rw [← e]
        simpa using this
      have HA := Lib.hid hany
      clear hany
      go_wp2_with fail
      go_loopw [6] (fun i wr => i = .int .i64 0 ∧ Hid (w1 = wr)) (fun i _ => 1)
      case atStart => exact ⟨rfl, Lib.hid rfl⟩
      case round =>
        obtain ⟨rfl, HW2⟩ := hrel
        obtain ⟨wo2, rfl⟩ : ∃ wo : World, wo = wr := ⟨_, rfl⟩
        obtain rfl := HW2.out
        go_wp2_with fail
        go_ret
        exact ⟨by rw [HA.out]; rfl, HK.out⟩
end Go.Proofs.YtnbpgipbfejllaaDoor
