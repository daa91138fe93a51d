/- graph: right instructions (the program's). -/
import Derived.Test.YtnbpgipbfejllaaDoorMG28
import Derived.Test.YtnbpgipbfejllaaDoorMG25
import Derived.Deep.CutBlock
namespace Go.Proofs.YtnbpgipbfejllaaDoor
open Go.RowKit Go.Lib
set_option linter.unusedVariables false
set_option linter.unusedSimpArgs false

theorem Shape.once {T : TR} {P k : Nat} {x : TI} (h : Shape T P k x) (ho : x.once = true) : memB [2, 3, 4, 5, 6, 7, 8, 9, 10, 12, 14] x.op = true := by cases h <;> first | rfl | (exact Bool.noConfusion ho)
theorem Shape.exneg {T : TR} {P k : Nat} {x : TI} (h : Shape T P k x) (ho : x.ex < 0) : x.ex = -1 ∧ memB [5, 6, 7, 8, 9, 15, 18, 21] x.op = false := by
  cases h <;> first | exact ⟨rfl, rfl⟩ | (exfalso; dsimp only at ho; omega)
theorem Shape.expos {T : TR} {P k : Nat} {x : TI} (h : Shape T P k x) (ho : 0 ≤ x.ex) : mayOp x.op = true := by
  cases h <;> first | rfl | (exfalso; dsimp only at ho; omega)
theorem Shape.uses_vb {T : TR} {P k : Nat} {x : TI} (h : Shape T P k x) : ∀ v ∈ x.uses, VB T k v := by
  intro v hv
  cases h with
  | param => simp [TI.uses] at hv
  | const => simp [TI.uses] at hv
  | unary _ _ _ _ h1 => simp [TI.uses] at hv; subst hv; exact h1
  | binary _ _ _ _ _ h1 h2 => simp [TI.uses] at hv; rcases hv with rfl | rfl <;> assumption
  | guard _ _ _ _ h1 => simp [TI.uses] at hv; subst hv; exact h1
  | kind _ _ _ _ h1 => simp [TI.uses] at hv; subst hv; exact h1
  | shape _ _ _ h1 => simp [TI.uses] at hv; subst hv; exact h1
  | arr _ _ _ h1 => simp [TI.uses] at hv; subst hv; exact h1
  | bounds _ _ _ _ h1 h2 => simp [TI.uses] at hv; rcases hv with rfl | rfl <;> assumption
  | load _ _ _ h1 => simp [TI.uses] at hv; subst hv; exact h1
  | store _ _ _ h1 h2 => simp [TI.uses] at hv; rcases hv with rfl | rfl <;> assumption
  | at_ _ _ _ h1 h2 => simp [TI.uses] at hv; rcases hv with rfl | rfl <;> assumption
  | put _ _ _ h1 h2 h3 => simp [TI.uses] at hv; rcases hv with rfl | rfl | rfl <;> assumption
  | len _ _ h1 => simp [TI.uses] at hv; subst hv; exact h1
  | bytes => simp [TI.uses] at hv
  | new => simp [TI.uses] at hv
  | fuel => simp [TI.uses] at hv
  | print _ _ h1 => simp [TI.uses] at hv; subst hv; exact h1
  | loop _ _ h1 => simp [TI.uses] at hv; exact h1 v hv
  | fin => simp [TI.uses] at hv
theorem Shape.p1 {T : TR} {P k : Nat} {x : TI} (h : Shape T P k x) (ho : x.op = 1) : x.kn = (k : Int) ∧ x.once = false ∧ x.ex = -1 := by cases h <;> first | exact ⟨rfl, rfl, rfl⟩ | (exfalso; dsimp only at ho; omega)
theorem Shape.p20 {T : TR} {P k : Nat} {x : TI} (h : Shape T P k x) (ho : x.op = 20) : x.args.length = P ∧ x.once = false ∧ x.ex = -1 := by
  cases h with
  | loop _ h1 _ => exact ⟨h1, rfl, rfl⟩
  | _ => exfalso; dsimp only at ho; omega
theorem Shape.p21 {T : TR} {P k : Nat} {x : TI} (h : Shape T P k x) (ho : x.op = 21) : x.once = false ∧ 0 ≤ x.ex := by
  cases h with
  | fin _ h1 => exact ⟨rfl, h1⟩
  | _ => exfalso; dsimp only at ho; omega
theorem cell_lt {w : World} {p : Addr} {v : Value} (h : w.cell? p = some v) : p.block < w.heap.size := by
  unfold World.cell? at h
  cases hb : w.heap[p.block]? with
  | none => simp [hb] at h
  | some o => exact blk_lt' hb
theorem fb_obj {P : Program} {k e : TypeId} {w : World} {b c : Nat} {S : Int → Bool} (h : FB P k e w b S c) : ∃ es n, w.heap[b]? = some (.map es n) := by
  obtain ⟨D, h1, _⟩ := h
  obtain ⟨es, n, h2, _⟩ := h1
  exact ⟨es, n, h2⟩
theorem TA.keepm {w w' : World} {A : Option Addr} {ca : Nat} {E : Option Addr} {ce : Nat} {R : List RI} {X : List RX} {T : TR} {F : Nat → Prop} (h : TA w A ca E ce R X T) (hk : Keep F w w') (hn : ∀ g cur t, w.heap[g]? = some (.cells cur t (0, 0)) → ¬ F g) : TA w' A ca E ce R X T :=
  ⟨h.lieR.keep hk (fun g cur hg => hn g cur _ hg), h.lieX.keep hk (fun g cur hg => hn g cur _ hg), fun r hr => (h.fitR r hr).keep hk (fun g cur hg => hn g cur _ hg) (fun g cur hg => hn g cur _ hg), fun r hr => (h.fitX r hr).keep hk (fun g cur hg => hn g cur _ hg) (fun g cur hg => hn g cur _ hg), h.ins, h.exits, h.offA, h.offE⟩
section
variable {w w' : World} {A : Option Addr} {ca : Nat} {E : Option Addr} {ce : Nat} {R : List RI} {X : List RX} {T : TR}
theorem blk_two {w : World} {o o' : Obj} : ((w.alloc o).alloc o').heap[w.heap.size]? = some o ∧ ((w.alloc o).alloc o').heap[w.heap.size + 1]? = some o' := ⟨alloc_old' (heap_alloc_new w o), by simpa using heap_alloc_new (w.alloc o) o'⟩
set_option maxRecDepth 100000 in
set_option maxHeartbeats 16000000 in
theorem gins_any {P : Nat} (h : TA w A ca E ce R X T) (hr : RightT P T) {k : Nat} (hk : k < T.ins.length) {mp cn : Nat} {S : Int → Bool} (hm : FB Tryd.prog 3 4 w mp S cn) (hS : 0 ≤ (T.at_ k).ex → S (T.at_ k).ex = false) (hcn : cn ≤ 1000) :
    Calls Tryd.prog 46 #[chkV A ca E ce T mp, .int .i64 (k : Int), .int .i64 (P : Int)] w fun e w' => e = .returned (.bool true) ∧ Keep (fun b => b = mp ∨ w.heap.size ≤ b) w w' ∧
      ∃ c', c' ≤ cn + 1 ∧ FB Tryd.prog 3 4 w' mp (fun j => if 0 ≤ (T.at_ k).ex then j == (T.at_ k).ex || S j else S j) c' := by
  have HT := Lib.hid h
  have HR := Lib.hid hr
  have hsh := (hr.good.shape k hk).1
  have HSH := Lib.hid hsh
  have HO1 := Lib.hid (hr.op1 hk)
  have HLA := Lib.hid (hr.last k hk)
  have HEX := Lib.hid (hr.good.exit k hk)
  have HM := Lib.hid hm
  have HS := Lib.hid hS
  have HKN := Lib.hid hk
  have hfew := hr.few
  have HXF := Lib.hid (Nat.le_trans hr.good.few hr.few)
  have hmlt := hm.lt
  obtain ⟨g, rfl, ⟨cur, hcur⟩, hx, hmem, hc⟩ := h.cellsI hk
  have HGL := Lib.hid (blk_lt hcur)
  clear hcur
  have hft := h.fitR _ hmem
  obtain ⟨r, hrr⟩ : ∃ r, R.getD k RI.dflt = r := ⟨_, rfl⟩
  rw [hrr] at hx hc hft
  rw [← hx] at hsh HSH HO1 HLA HEX HS
  obtain ⟨⟨op, a, b, c, nn, args, kk, kn, ks, names, pf, pl, ex, once⟩, A2, ca2, N2, cn2⟩ := r
  have HX := Lib.hid hx
  rw [← hx]
  clear hx
  dsimp only at hsh HSH HO1 HLA HEX HS ⊢
  have HFT := Lib.hid hft
  have HK0 := Lib.hid ((Keep.refl (fun _ => False) w).alloc' (.cells #[.int .i64 T.pf, .int .i64 T.pl, .slice (some ⟨g, 0, none⟩) T.ins.length ca, .slice E T.exits.length ce, .map (some mp)] 99))
  obtain ⟨g', e', _, hx2, hmem2, hc2⟩ := (h.quiet HK0.out).cellsI hk
  rw [hrr] at hc2
  obtain rfl : g = g' := by
    have := Option.some.inj e'
    injection this with a
  have z0 : (w.alloc (.cells #[.int .i64 T.pf, .int .i64 T.pl, .slice (some ⟨g, 0, none⟩) T.ins.length ca, .slice E T.exits.length ce, .map (some mp)] 99)).cell? ⟨g, k * 14, none⟩ = some (.int .i64 op) := (hc2 0 (by omega)).trans rfl
  have z1 : (w.alloc (.cells #[.int .i64 T.pf, .int .i64 T.pl, .slice (some ⟨g, 0, none⟩) T.ins.length ca, .slice E T.exits.length ce, .map (some mp)] 99)).cell? ⟨g, k * 14 + 1, none⟩ = some (.int .i64 a) := (hc2 1 (by omega)).trans rfl
  have z2 : (w.alloc (.cells #[.int .i64 T.pf, .int .i64 T.pl, .slice (some ⟨g, 0, none⟩) T.ins.length ca, .slice E T.exits.length ce, .map (some mp)] 99)).cell? ⟨g, k * 14 + 2, none⟩ = some (.int .i64 b) := (hc2 2 (by omega)).trans rfl
  have z3 : (w.alloc (.cells #[.int .i64 T.pf, .int .i64 T.pl, .slice (some ⟨g, 0, none⟩) T.ins.length ca, .slice E T.exits.length ce, .map (some mp)] 99)).cell? ⟨g, k * 14 + 3, none⟩ = some (.int .i64 c) := (hc2 3 (by omega)).trans rfl
  have z4 : (w.alloc (.cells #[.int .i64 T.pf, .int .i64 T.pl, .slice (some ⟨g, 0, none⟩) T.ins.length ca, .slice E T.exits.length ce, .map (some mp)] 99)).cell? ⟨g, k * 14 + 4, none⟩ = some (.int .i64 nn) := (hc2 4 (by omega)).trans rfl
  have z5 : (w.alloc (.cells #[.int .i64 T.pf, .int .i64 T.pl, .slice (some ⟨g, 0, none⟩) T.ins.length ca, .slice E T.exits.length ce, .map (some mp)] 99)).cell? ⟨g, k * 14 + 5, none⟩ = some (.slice A2 args.length ca2) := (hc2 5 (by omega)).trans rfl
  have z6 : (w.alloc (.cells #[.int .i64 T.pf, .int .i64 T.pl, .slice (some ⟨g, 0, none⟩) T.ins.length ca, .slice E T.exits.length ce, .map (some mp)] 99)).cell? ⟨g, k * 14 + 6, none⟩ = some (.int .i64 kk) := (hc2 6 (by omega)).trans rfl
  have z7 : (w.alloc (.cells #[.int .i64 T.pf, .int .i64 T.pl, .slice (some ⟨g, 0, none⟩) T.ins.length ca, .slice E T.exits.length ce, .map (some mp)] 99)).cell? ⟨g, k * 14 + 7, none⟩ = some (.int .i64 kn) := (hc2 7 (by omega)).trans rfl
  have z8 : (w.alloc (.cells #[.int .i64 T.pf, .int .i64 T.pl, .slice (some ⟨g, 0, none⟩) T.ins.length ca, .slice E T.exits.length ce, .map (some mp)] 99)).cell? ⟨g, k * 14 + 8, none⟩ = some (.string (sb ks)) := (hc2 8 (by omega)).trans rfl
  have z9 : (w.alloc (.cells #[.int .i64 T.pf, .int .i64 T.pl, .slice (some ⟨g, 0, none⟩) T.ins.length ca, .slice E T.exits.length ce, .map (some mp)] 99)).cell? ⟨g, k * 14 + 9, none⟩ = some (.slice N2 names.length cn2) := (hc2 9 (by omega)).trans rfl
  have z10 : (w.alloc (.cells #[.int .i64 T.pf, .int .i64 T.pl, .slice (some ⟨g, 0, none⟩) T.ins.length ca, .slice E T.exits.length ce, .map (some mp)] 99)).cell? ⟨g, k * 14 + 10, none⟩ = some (.int .i64 pf) := (hc2 10 (by omega)).trans rfl
  have z11 : (w.alloc (.cells #[.int .i64 T.pf, .int .i64 T.pl, .slice (some ⟨g, 0, none⟩) T.ins.length ca, .slice E T.exits.length ce, .map (some mp)] 99)).cell? ⟨g, k * 14 + 11, none⟩ = some (.int .i64 pl) := (hc2 11 (by omega)).trans rfl
  have z12 : (w.alloc (.cells #[.int .i64 T.pf, .int .i64 T.pl, .slice (some ⟨g, 0, none⟩) T.ins.length ca, .slice E T.exits.length ce, .map (some mp)] 99)).cell? ⟨g, k * 14 + 12, none⟩ = some (.int .i64 ex) := (hc2 12 (by omega)).trans rfl
  have z13 : (w.alloc (.cells #[.int .i64 T.pf, .int .i64 T.pl, .slice (some ⟨g, 0, none⟩) T.ins.length ca, .slice E T.exits.length ce, .map (some mp)] 99)).cell? ⟨g, k * 14 + 13, none⟩ = some (.bool once) := (hc2 13 (by omega)).trans rfl
  have hKN : ∀ j, j < T.ins.length → ∃ v, w.cell? ⟨g, j * 14 + 7, none⟩ = some (.int .i64 v) ∧ v = (T.at_ j).kn := fun j hj => by
    obtain ⟨g', e', _, hx', _, hc'⟩ := h.cellsI hj
    obtain rfl : g = g' := by
      have := Option.some.inj e'
      injection this with a
    exact ⟨(T.at_ j).kn, by rw [← hx']; exact (hc' 7 (by omega)).trans rfl, rfl⟩
  have HKP := Lib.hid hKN
  clear hrr hc hft hmem hKN h hr hk hm hS hc2 hx2 hmem2 e'
  obtain ⟨N, hN⟩ : ∃ N, T.ins.length = N := ⟨_, rfl⟩
  obtain ⟨M, hM⟩ : ∃ M, T.exits.length = M := ⟨_, rfl⟩
  have HN := Lib.hid hN
  have HMM := Lib.hid hM
  have hkN : k < N := by have := HKN.out; omega
  unfold chkV
  rw [hN] at hfew
  rw [hN, hM] at z0 z1 z2 z3 z4 z5 z6 z7 z8 z9 z10 z11 z12 z13 HK0 ⊢
  clear hN hM
  go_enter Tryd.func46, Tryd.ntmps46
  go_upto_block 0 with (fail)
  have HBB := Lib.hid (@blk_two w (.cells #[.int .i64 T.pf, .int .i64 T.pl, .slice (some ⟨g, 0, none⟩) N ca, .slice E M ce, .map (some mp)] 99) (.cells #[.int .i64 op, .int .i64 a, .int .i64 b, .int .i64 c, .int .i64 nn, .slice A2 args.length ca2, .int .i64 kk, .int .i64 kn, .string (sb ks), .slice N2 names.length cn2, .int .i64 pf, .int .i64 pl, .int .i64 ex, .bool once] 60))
  have HK1 := Lib.hid (HK0.out.alloc' (.cells #[.int .i64 op, .int .i64 a, .int .i64 b, .int .i64 c, .int .i64 nn, .slice A2 args.length ca2, .int .i64 kk, .int .i64 kn, .string (sb ks), .slice N2 names.length cn2, .int .i64 pf, .int .i64 pl, .int .i64 ex, .bool once] 60))
  obtain ⟨w1, hw1⟩ : ∃ w1 : World, (w.alloc (.cells #[.int .i64 T.pf, .int .i64 T.pl, .slice (some ⟨g, 0, none⟩) N ca, .slice E M ce, .map (some mp)] 99)).alloc (.cells #[.int .i64 op, .int .i64 a, .int .i64 b, .int .i64 c, .int .i64 nn, .slice A2 args.length ca2, .int .i64 kk, .int .i64 kn, .string (sb ks), .slice N2 names.length cn2, .int .i64 pf, .int .i64 pl, .int .i64 ex, .bool once] 60) = w1 := ⟨_, rfl⟩
  have HSZ := Lib.hid (show w1.heap.size = w.heap.size + 2 by rw [← hw1]; simp)
  obtain ⟨q, hq⟩ : ∃ q, w.heap.size = q := ⟨_, rfl⟩
  rw [hw1] at HBB HK1
  rw [hq] at HBB HSZ
  rw [hw1, hq]
  have HQ := Lib.hid hq
  clear hw1 hq HK0 z0 z1 z2 z3 z4 z5 z6 z7 z8 z9 z10 z11 z12 z13
  go_cut [8] from 11 (fun _ wx => Hid (Since w1.heap.size w1 wx))
  case first =>
    have HFT1 := Lib.hid (RI.Fits.keep HFT.out HK1.out (fun _ _ _ => id) (fun _ _ _ => id))
    have HFD := Lib.hid (show Calls Tryd.prog 66 #[.agg #[.int .i64 op, .int .i64 a, .int .i64 b, .int .i64 c, .int .i64 nn, .slice A2 args.length ca2, .int .i64 kk, .int .i64 kn, .string (sb ks), .slice N2 names.length cn2, .int .i64 pf, .int .i64 pl, .int .i64 ex, .bool once]] w1 (fun e w' => e = .returned (.bool true) ∧ Since w1.heap.size w1 w') from gfields_any ⟨⟨op, a, b, c, nn, args, kk, kn, ks, names, pf, pl, ex, once⟩, A2, ca2, N2, cn2⟩ HFT1.out hsh HR.out.p1.2)
    have y0 := (blk_cell HBB.out.2 0).trans rfl
    have y1 := (blk_cell HBB.out.2 1).trans rfl
    have y2 := (blk_cell HBB.out.2 2).trans rfl
    have y3 := (blk_cell HBB.out.2 3).trans rfl
    have y4 := (blk_cell HBB.out.2 4).trans rfl
    have y5 := (blk_cell HBB.out.2 5).trans rfl
    have y6 := (blk_cell HBB.out.2 6).trans rfl
    have y7 := (blk_cell HBB.out.2 7).trans rfl
    have y8 := (blk_cell HBB.out.2 8).trans rfl
    have y9 := (blk_cell HBB.out.2 9).trans rfl
    have y10 := (blk_cell HBB.out.2 10).trans rfl
    have y11 := (blk_cell HBB.out.2 11).trans rfl
    have y12 := (blk_cell HBB.out.2 12).trans rfl
    have y13 := (blk_cell HBB.out.2 13).trans rfl
    clear hsh
    by_cases h20 : op = 20
    · subst h20
      obtain ⟨hal, hon, hexx⟩ := HSH.out.p20 rfl
      dsimp only at hal hon hexx
      subst hon hexx
      have hkl : k + 1 = N := by have := HLA.out.1 (.inl rfl); rw [HN.out] at this; exact this
      have e8 : ((k : Int) == (N : Int) - 1) = true := by simp; omega
      have HMU := Lib.hid (fun w => gmust_any 20 w)
      rw [show memB [5, 6, 7, 8, 9, 15, 18, 21] 20 = false from rfl] at HMU
      rw [hal] at HBB HFD y5
      rw [hal]
      go_wp2_with fail
      have HI2 := Lib.hid HBB.out.2
      have HI0 := Lib.hid HBB.out.1
      have HK2 := Lib.hid (Keep.refl (fun k => w1.heap.size ≤ k) w1)
      ((with_reducible refine HFD.out.mono ?_); rintro ee w2 ⟨rfl, hk3⟩)
      replace HI2 := Lib.hid ((hk3.block (q + 1) (by have := HK2.out.size; have := HSZ.out; omega) (by have := HK2.out.size; have := HSZ.out; omega)).trans HI2.out)
      replace HI0 := Lib.hid ((hk3.block q (by have := HK2.out.size; have := HSZ.out; omega) (by have := HK2.out.size; have := HSZ.out; omega)).trans HI0.out)
      replace HK2 := Lib.hid (Keep.trans HK2.out (Since.mono hk3 HK2.out.size))
      clear hk3
      clear y0 y1 y2 y3 y4 y5 y6 y7 y8 y9 y10 y11 y12 y13
      have x0 := (blk_cell HI2.out 0).trans rfl
      have x5 := (blk_cell HI2.out 5).trans rfl
      have x7 := (blk_cell HI2.out 7).trans rfl
      have x12 := (blk_cell HI2.out 12).trans rfl
      have x13 := (blk_cell HI2.out 13).trans rfl
      have d2 := (blk_cell HI0.out 2).trans rfl
      have d3 := (blk_cell HI0.out 3).trans rfl
      go_wp2_with fail
      go_quiet (fail)
      go_wp2_with fail
      replace HI2 := Lib.hid (((keep_drewN (fun _ => False) w2 nq).block (q + 1) (by have := HK2.out.size; have := HSZ.out; omega) id).trans HI2.out)
      replace HI0 := Lib.hid (((keep_drewN (fun _ => False) w2 nq).block q (by have := HK2.out.size; have := HSZ.out; omega) id).trans HI0.out)
      replace HK2 := Lib.hid (Keep.trans HK2.out (keep_drewN (fun k => w1.heap.size ≤ k) w2 nq))
      clear x0 x5 x7 x12 x13 d2 d3
      ((with_reducible refine (HMU.out _).mono ?_); rintro ee w4 ⟨rfl, hk3⟩)
      replace HI2 := Lib.hid ((hk3.block (q + 1) (by have := HK2.out.size; have := HSZ.out; omega) id).trans HI2.out)
      replace HI0 := Lib.hid ((hk3.block q (by have := HK2.out.size; have := HSZ.out; omega) id).trans HI0.out)
      replace HK2 := Lib.hid (Keep.trans HK2.out (Since.of (n := w1.heap.size) hk3))
      clear hk3
      have x0 := (blk_cell HI2.out 0).trans rfl
      have x5 := (blk_cell HI2.out 5).trans rfl
      have x7 := (blk_cell HI2.out 7).trans rfl
      have x12 := (blk_cell HI2.out 12).trans rfl
      have x13 := (blk_cell HI2.out 13).trans rfl
      have d2 := (blk_cell HI0.out 2).trans rfl
      have d3 := (blk_cell HI0.out 3).trans rfl
      go_wp2_with fail
      go_meet
      exact HK2
    by_cases h21 : op = 21
    · subst h21
      obtain ⟨hon, hexp⟩ := HSH.out.p21 rfl
      dsimp only at hon hexp
      subst hon
      have hkl : k + 1 = N := by have := HLA.out.1 (.inr rfl); rw [HN.out] at this; exact this
      have e8 : ((k : Int) == (N : Int) - 1) = true := by simp; omega
      have hxM : ex < (M : Int) := by have := (HEX.out (by omega)).1; rw [HMM.out] at this; exact this
      have HMY := Lib.hid (fun w => may_any 21 w)
      rw [show mayOp 21 = true from HSH.out.expos (by dsimp only; omega)] at HMY
      go_wp2_with fail
      have HI2 := Lib.hid HBB.out.2
      have HI0 := Lib.hid HBB.out.1
      have HK2 := Lib.hid (Keep.refl (fun k => w1.heap.size ≤ k) w1)
      ((with_reducible refine HFD.out.mono ?_); rintro ee w2 ⟨rfl, hk3⟩)
      replace HI2 := Lib.hid ((hk3.block (q + 1) (by have := HK2.out.size; have := HSZ.out; omega) (by have := HK2.out.size; have := HSZ.out; omega)).trans HI2.out)
      replace HI0 := Lib.hid ((hk3.block q (by have := HK2.out.size; have := HSZ.out; omega) (by have := HK2.out.size; have := HSZ.out; omega)).trans HI0.out)
      replace HK2 := Lib.hid (Keep.trans HK2.out (Since.mono hk3 HK2.out.size))
      clear hk3
      clear y0 y1 y2 y3 y4 y5 y6 y7 y8 y9 y10 y11 y12 y13
      have x0 := (blk_cell HI2.out 0).trans rfl
      have x5 := (blk_cell HI2.out 5).trans rfl
      have x7 := (blk_cell HI2.out 7).trans rfl
      have x12 := (blk_cell HI2.out 12).trans rfl
      have x13 := (blk_cell HI2.out 13).trans rfl
      have d2 := (blk_cell HI0.out 2).trans rfl
      have d3 := (blk_cell HI0.out 3).trans rfl
      go_wp2_with fail
      go_quiet (fail)
      go_wp2_with fail
      replace HI2 := Lib.hid (((keep_drewN (fun _ => False) w2 nq).block (q + 1) (by have := HK2.out.size; have := HSZ.out; omega) id).trans HI2.out)
      replace HI0 := Lib.hid (((keep_drewN (fun _ => False) w2 nq).block q (by have := HK2.out.size; have := HSZ.out; omega) id).trans HI0.out)
      replace HK2 := Lib.hid (Keep.trans HK2.out (keep_drewN (fun k => w1.heap.size ≤ k) w2 nq))
      clear x0 x5 x7 x12 x13 d2 d3
      ((with_reducible refine (HMY.out _).mono ?_); rintro ee w4 ⟨rfl, hk3⟩)
      replace HI2 := Lib.hid ((hk3.block (q + 1) (by have := HK2.out.size; have := HSZ.out; omega) id).trans HI2.out)
      replace HI0 := Lib.hid ((hk3.block q (by have := HK2.out.size; have := HSZ.out; omega) id).trans HI0.out)
      replace HK2 := Lib.hid (Keep.trans HK2.out (Since.of (n := w1.heap.size) hk3))
      clear hk3
      have x0 := (blk_cell HI2.out 0).trans rfl
      have x5 := (blk_cell HI2.out 5).trans rfl
      have x7 := (blk_cell HI2.out 7).trans rfl
      have x12 := (blk_cell HI2.out 12).trans rfl
      have x13 := (blk_cell HI2.out 13).trans rfl
      have d2 := (blk_cell HI0.out 2).trans rfl
      have d3 := (blk_cell HI0.out 3).trans rfl
      go_wp2_with fail
      go_meet
      exact HK2
    have b20 : (op == 20) = false := by simpa using h20
    have b21 : (op == 21) = false := by simpa using h21
    have hkl : k + 1 ≠ N := fun e => by
      have := HLA.out.2 (by rw [HN.out]; exact e)
      rcases this with e | e
      · exact h20 e
      · exact h21 e
    have e8 : ((k : Int) == (N : Int) - 1) = false := by simp; omega
    by_cases h1 : op = 1
    · subst h1
      obtain ⟨hkn, hon, hexx⟩ := HSH.out.p1 rfl
      dsimp only at hkn hon hexx
      have HKNE := Lib.hid hkn
      clear hkn
      subst hon hexx
      have hkP : k < P := HO1.out.1 rfl
      have HMU := Lib.hid (fun w => gmust_any 1 w)
      rw [show memB [5, 6, 7, 8, 9, 15, 18, 21] 1 = false from rfl] at HMU
      by_cases hk0 : k = 0
      · have c1 : decide (P ≤ k) = false := by simp; omega
        have c2 : decide (0 < k) = false := by simp; omega
        clear hk0
        go_wp2_with fail
        have HI2 := Lib.hid HBB.out.2
        have HI0 := Lib.hid HBB.out.1
        have HK2 := Lib.hid (Keep.refl (fun k => w1.heap.size ≤ k) w1)
        ((with_reducible refine HFD.out.mono ?_); rintro ee w2 ⟨rfl, hk3⟩)
        replace HI2 := Lib.hid ((hk3.block (q + 1) (by have := HK2.out.size; have := HSZ.out; omega) (by have := HK2.out.size; have := HSZ.out; omega)).trans HI2.out)
        replace HI0 := Lib.hid ((hk3.block q (by have := HK2.out.size; have := HSZ.out; omega) (by have := HK2.out.size; have := HSZ.out; omega)).trans HI0.out)
        replace HK2 := Lib.hid (Keep.trans HK2.out (Since.mono hk3 HK2.out.size))
        clear hk3
        clear y0 y1 y2 y3 y4 y5 y6 y7 y8 y9 y10 y11 y12 y13
        have x0 := (blk_cell HI2.out 0).trans rfl
        have x5 := (blk_cell HI2.out 5).trans rfl
        have x7 := (blk_cell HI2.out 7).trans rfl
        have x12 := (blk_cell HI2.out 12).trans rfl
        have x13 := (blk_cell HI2.out 13).trans rfl
        have d2 := (blk_cell HI0.out 2).trans rfl
        have d3 := (blk_cell HI0.out 3).trans rfl
        go_wp2_with fail
        go_quiet (fail)
        go_wp2_with fail
        replace HI2 := Lib.hid (((keep_drewN (fun _ => False) w2 nq).block (q + 1) (by have := HK2.out.size; have := HSZ.out; omega) id).trans HI2.out)
        replace HI0 := Lib.hid (((keep_drewN (fun _ => False) w2 nq).block q (by have := HK2.out.size; have := HSZ.out; omega) id).trans HI0.out)
        replace HK2 := Lib.hid (Keep.trans HK2.out (keep_drewN (fun k => w1.heap.size ≤ k) w2 nq))
        clear x0 x5 x7 x12 x13 d2 d3
        ((with_reducible refine (HMU.out _).mono ?_); rintro ee w4 ⟨rfl, hk3⟩)
        replace HI2 := Lib.hid ((hk3.block (q + 1) (by have := HK2.out.size; have := HSZ.out; omega) id).trans HI2.out)
        replace HI0 := Lib.hid ((hk3.block q (by have := HK2.out.size; have := HSZ.out; omega) id).trans HI0.out)
        replace HK2 := Lib.hid (Keep.trans HK2.out (Since.of (n := w1.heap.size) hk3))
        clear hk3
        have x0 := (blk_cell HI2.out 0).trans rfl
        have x5 := (blk_cell HI2.out 5).trans rfl
        have x7 := (blk_cell HI2.out 7).trans rfl
        have x12 := (blk_cell HI2.out 12).trans rfl
        have x13 := (blk_cell HI2.out 13).trans rfl
        have d2 := (blk_cell HI0.out 2).trans rfl
        have d3 := (blk_cell HI0.out 3).trans rfl
        go_wp2_with fail
        go_meet
        exact HK2
      · obtain ⟨j, rfl⟩ : ∃ j, k = j + 1 := ⟨k - 1, by omega⟩
        have hknj : decide (kn ≤ (j : Int)) = false := by have := HKNE.out; simp; omega
        have c1 : decide (P ≤ j + 1) = false := by simp; omega
        have c3 : decide ((P : Int) ≤ (j : Int) + 1) = false := by simp; omega
        have c4 : decide (0 < (j : Int) + 1) = true := decide_eq_true (by omega)
        have c5 : (j : Int) + 1 - 1 = (j : Int) := by omega
        have c6 : j < N := by omega
        go_wp2_with fail
        have HI2 := Lib.hid HBB.out.2
        have HI0 := Lib.hid HBB.out.1
        have HK2 := Lib.hid (Keep.refl (fun k => w1.heap.size ≤ k) w1)
        ((with_reducible refine HFD.out.mono ?_); rintro ee w2 ⟨rfl, hk3⟩)
        replace HI2 := Lib.hid ((hk3.block (q + 1) (by have := HK2.out.size; have := HSZ.out; omega) (by have := HK2.out.size; have := HSZ.out; omega)).trans HI2.out)
        replace HI0 := Lib.hid ((hk3.block q (by have := HK2.out.size; have := HSZ.out; omega) (by have := HK2.out.size; have := HSZ.out; omega)).trans HI0.out)
        replace HK2 := Lib.hid (Keep.trans HK2.out (Since.mono hk3 HK2.out.size))
        clear hk3
        clear y0 y1 y2 y3 y4 y5 y6 y7 y8 y9 y10 y11 y12 y13
        have x0 := (blk_cell HI2.out 0).trans rfl
        have x5 := (blk_cell HI2.out 5).trans rfl
        have x7 := (blk_cell HI2.out 7).trans rfl
        have x12 := (blk_cell HI2.out 12).trans rfl
        have x13 := (blk_cell HI2.out 13).trans rfl
        have d2 := (blk_cell HI0.out 2).trans rfl
        have d3 := (blk_cell HI0.out 3).trans rfl
        obtain ⟨v, hv, hvk⟩ := HKP.out j (by rw [HN.out]; omega)
        have hjp := (HR.out.good.shape j (by rw [HN.out]; omega)).1.p1 ((HR.out.good.shape j (by rw [HN.out]; omega)).2 (by omega))
        rw [hjp.1] at hvk
        subst hvk
        have pv := (((Keep.trans (Since.of HK1.out) (Keep.mono HK2.out (F' := fun b => w.heap.size ≤ b) (fun k e => by have := HSZ.out; have := HQ.out; omega)) : Keep (fun b => w.heap.size ≤ b) w w2)).cell (p := ⟨g, j * 14 + 7, none⟩) HGL.out (show ¬ (w.heap.size ≤ g) by have := HGL.out; omega)).trans hv
        clear hjp
        go_wp2_with fail
        go_quiet (fail)
        go_wp2_with fail
        replace HI2 := Lib.hid (((keep_drewN (fun _ => False) w2 nq).block (q + 1) (by have := HK2.out.size; have := HSZ.out; omega) id).trans HI2.out)
        replace HI0 := Lib.hid (((keep_drewN (fun _ => False) w2 nq).block q (by have := HK2.out.size; have := HSZ.out; omega) id).trans HI0.out)
        replace HK2 := Lib.hid (Keep.trans HK2.out (keep_drewN (fun k => w1.heap.size ≤ k) w2 nq))
        clear x0 x5 x7 x12 x13 d2 d3
        ((with_reducible refine (HMU.out _).mono ?_); rintro ee w4 ⟨rfl, hk3⟩)
        replace HI2 := Lib.hid ((hk3.block (q + 1) (by have := HK2.out.size; have := HSZ.out; omega) id).trans HI2.out)
        replace HI0 := Lib.hid ((hk3.block q (by have := HK2.out.size; have := HSZ.out; omega) id).trans HI0.out)
        replace HK2 := Lib.hid (Keep.trans HK2.out (Since.of (n := w1.heap.size) hk3))
        clear hk3
        have x0 := (blk_cell HI2.out 0).trans rfl
        have x5 := (blk_cell HI2.out 5).trans rfl
        have x7 := (blk_cell HI2.out 7).trans rfl
        have x12 := (blk_cell HI2.out 12).trans rfl
        have x13 := (blk_cell HI2.out 13).trans rfl
        have d2 := (blk_cell HI0.out 2).trans rfl
        have d3 := (blk_cell HI0.out 3).trans rfl
        go_wp2_with fail
        go_meet
        exact HK2
    have b1 : (op == 1) = false := by simpa using h1
    clear h20 h21 h1
    cases once with
    | false =>
      by_cases hex0 : ex < 0
      · have hex : ex = -1 := (HSH.out.exneg (by dsimp only; omega)).1
        have HMU := Lib.hid (fun w => gmust_any op w)
        rw [show memB [5, 6, 7, 8, 9, 15, 18, 21] op = false from (HSH.out.exneg (by dsimp only; omega)).2] at HMU
        subst hex
        go_wp2_with fail
        have HI2 := Lib.hid HBB.out.2
        have HI0 := Lib.hid HBB.out.1
        have HK2 := Lib.hid (Keep.refl (fun k => w1.heap.size ≤ k) w1)
        ((with_reducible refine HFD.out.mono ?_); rintro ee w2 ⟨rfl, hk3⟩)
        replace HI2 := Lib.hid ((hk3.block (q + 1) (by have := HK2.out.size; have := HSZ.out; omega) (by have := HK2.out.size; have := HSZ.out; omega)).trans HI2.out)
        replace HI0 := Lib.hid ((hk3.block q (by have := HK2.out.size; have := HSZ.out; omega) (by have := HK2.out.size; have := HSZ.out; omega)).trans HI0.out)
        replace HK2 := Lib.hid (Keep.trans HK2.out (Since.mono hk3 HK2.out.size))
        clear hk3
        clear y0 y1 y2 y3 y4 y5 y6 y7 y8 y9 y10 y11 y12 y13
        have x0 := (blk_cell HI2.out 0).trans rfl
        have x5 := (blk_cell HI2.out 5).trans rfl
        have x7 := (blk_cell HI2.out 7).trans rfl
        have x12 := (blk_cell HI2.out 12).trans rfl
        have x13 := (blk_cell HI2.out 13).trans rfl
        have d2 := (blk_cell HI0.out 2).trans rfl
        have d3 := (blk_cell HI0.out 3).trans rfl
        go_wp2_with fail
        go_quiet (fail)
        go_wp2_with fail
        replace HI2 := Lib.hid (((keep_drewN (fun _ => False) w2 nq).block (q + 1) (by have := HK2.out.size; have := HSZ.out; omega) id).trans HI2.out)
        replace HI0 := Lib.hid (((keep_drewN (fun _ => False) w2 nq).block q (by have := HK2.out.size; have := HSZ.out; omega) id).trans HI0.out)
        replace HK2 := Lib.hid (Keep.trans HK2.out (keep_drewN (fun k => w1.heap.size ≤ k) w2 nq))
        clear x0 x5 x7 x12 x13 d2 d3
        ((with_reducible refine (HMU.out _).mono ?_); rintro ee w4 ⟨rfl, hk3⟩)
        replace HI2 := Lib.hid ((hk3.block (q + 1) (by have := HK2.out.size; have := HSZ.out; omega) id).trans HI2.out)
        replace HI0 := Lib.hid ((hk3.block q (by have := HK2.out.size; have := HSZ.out; omega) id).trans HI0.out)
        replace HK2 := Lib.hid (Keep.trans HK2.out (Since.of (n := w1.heap.size) hk3))
        clear hk3
        have x0 := (blk_cell HI2.out 0).trans rfl
        have x5 := (blk_cell HI2.out 5).trans rfl
        have x7 := (blk_cell HI2.out 7).trans rfl
        have x12 := (blk_cell HI2.out 12).trans rfl
        have x13 := (blk_cell HI2.out 13).trans rfl
        have d2 := (blk_cell HI0.out 2).trans rfl
        have d3 := (blk_cell HI0.out 3).trans rfl
        go_wp2_with fail
        go_meet
        exact HK2
      · have hxM : ex < (M : Int) := by have := (HEX.out (by omega)).1; rw [HMM.out] at this; exact this
        have HMY := Lib.hid (fun w => may_any op w)
        rw [show mayOp op = true from HSH.out.expos (by dsimp only; omega)] at HMY
        go_wp2_with fail
        have HI2 := Lib.hid HBB.out.2
        have HI0 := Lib.hid HBB.out.1
        have HK2 := Lib.hid (Keep.refl (fun k => w1.heap.size ≤ k) w1)
        ((with_reducible refine HFD.out.mono ?_); rintro ee w2 ⟨rfl, hk3⟩)
        replace HI2 := Lib.hid ((hk3.block (q + 1) (by have := HK2.out.size; have := HSZ.out; omega) (by have := HK2.out.size; have := HSZ.out; omega)).trans HI2.out)
        replace HI0 := Lib.hid ((hk3.block q (by have := HK2.out.size; have := HSZ.out; omega) (by have := HK2.out.size; have := HSZ.out; omega)).trans HI0.out)
        replace HK2 := Lib.hid (Keep.trans HK2.out (Since.mono hk3 HK2.out.size))
        clear hk3
        clear y0 y1 y2 y3 y4 y5 y6 y7 y8 y9 y10 y11 y12 y13
        have x0 := (blk_cell HI2.out 0).trans rfl
        have x5 := (blk_cell HI2.out 5).trans rfl
        have x7 := (blk_cell HI2.out 7).trans rfl
        have x12 := (blk_cell HI2.out 12).trans rfl
        have x13 := (blk_cell HI2.out 13).trans rfl
        have d2 := (blk_cell HI0.out 2).trans rfl
        have d3 := (blk_cell HI0.out 3).trans rfl
        go_wp2_with fail
        go_quiet (fail)
        go_wp2_with fail
        replace HI2 := Lib.hid (((keep_drewN (fun _ => False) w2 nq).block (q + 1) (by have := HK2.out.size; have := HSZ.out; omega) id).trans HI2.out)
        replace HI0 := Lib.hid (((keep_drewN (fun _ => False) w2 nq).block q (by have := HK2.out.size; have := HSZ.out; omega) id).trans HI0.out)
        replace HK2 := Lib.hid (Keep.trans HK2.out (keep_drewN (fun k => w1.heap.size ≤ k) w2 nq))
        clear x0 x5 x7 x12 x13 d2 d3
        ((with_reducible refine (HMY.out _).mono ?_); rintro ee w4 ⟨rfl, hk3⟩)
        replace HI2 := Lib.hid ((hk3.block (q + 1) (by have := HK2.out.size; have := HSZ.out; omega) id).trans HI2.out)
        replace HI0 := Lib.hid ((hk3.block q (by have := HK2.out.size; have := HSZ.out; omega) id).trans HI0.out)
        replace HK2 := Lib.hid (Keep.trans HK2.out (Since.of (n := w1.heap.size) hk3))
        clear hk3
        have x0 := (blk_cell HI2.out 0).trans rfl
        have x5 := (blk_cell HI2.out 5).trans rfl
        have x7 := (blk_cell HI2.out 7).trans rfl
        have x12 := (blk_cell HI2.out 12).trans rfl
        have x13 := (blk_cell HI2.out 13).trans rfl
        have d2 := (blk_cell HI0.out 2).trans rfl
        have d3 := (blk_cell HI0.out 3).trans rfl
        go_wp2_with fail
        go_meet
        exact HK2
    | true =>
      have HRP := Lib.hid (fun w => grepeats_any op w)
      rw [show memB [2, 3, 4, 5, 6, 7, 8, 9, 10, 12, 14] op = true from HSH.out.once rfl] at HRP
      by_cases hex0 : ex < 0
      · have hex : ex = -1 := (HSH.out.exneg (by dsimp only; omega)).1
        have HMU := Lib.hid (fun w => gmust_any op w)
        rw [show memB [5, 6, 7, 8, 9, 15, 18, 21] op = false from (HSH.out.exneg (by dsimp only; omega)).2] at HMU
        subst hex
        go_wp2_with fail
        have HI2 := Lib.hid HBB.out.2
        have HI0 := Lib.hid HBB.out.1
        have HK2 := Lib.hid (Keep.refl (fun k => w1.heap.size ≤ k) w1)
        ((with_reducible refine HFD.out.mono ?_); rintro ee w2 ⟨rfl, hk3⟩)
        replace HI2 := Lib.hid ((hk3.block (q + 1) (by have := HK2.out.size; have := HSZ.out; omega) (by have := HK2.out.size; have := HSZ.out; omega)).trans HI2.out)
        replace HI0 := Lib.hid ((hk3.block q (by have := HK2.out.size; have := HSZ.out; omega) (by have := HK2.out.size; have := HSZ.out; omega)).trans HI0.out)
        replace HK2 := Lib.hid (Keep.trans HK2.out (Since.mono hk3 HK2.out.size))
        clear hk3
        clear y0 y1 y2 y3 y4 y5 y6 y7 y8 y9 y10 y11 y12 y13
        have x0 := (blk_cell HI2.out 0).trans rfl
        have x5 := (blk_cell HI2.out 5).trans rfl
        have x7 := (blk_cell HI2.out 7).trans rfl
        have x12 := (blk_cell HI2.out 12).trans rfl
        have x13 := (blk_cell HI2.out 13).trans rfl
        have d2 := (blk_cell HI0.out 2).trans rfl
        have d3 := (blk_cell HI0.out 3).trans rfl
        go_wp2_with fail
        clear x0 x5 x7 x12 x13 d2 d3
        ((with_reducible refine (HRP.out _).mono ?_); rintro ee w3 ⟨rfl, hk3⟩)
        replace HI2 := Lib.hid ((hk3.block (q + 1) (by have := HK2.out.size; have := HSZ.out; omega) id).trans HI2.out)
        replace HI0 := Lib.hid ((hk3.block q (by have := HK2.out.size; have := HSZ.out; omega) id).trans HI0.out)
        replace HK2 := Lib.hid (Keep.trans HK2.out (Since.of (n := w1.heap.size) hk3))
        clear hk3
        have x0 := (blk_cell HI2.out 0).trans rfl
        have x5 := (blk_cell HI2.out 5).trans rfl
        have x7 := (blk_cell HI2.out 7).trans rfl
        have x12 := (blk_cell HI2.out 12).trans rfl
        have x13 := (blk_cell HI2.out 13).trans rfl
        have d2 := (blk_cell HI0.out 2).trans rfl
        have d3 := (blk_cell HI0.out 3).trans rfl
        go_wp2_with fail
        go_quiet (fail)
        go_wp2_with fail
        replace HI2 := Lib.hid (((keep_drewN (fun _ => False) w3 nq).block (q + 1) (by have := HK2.out.size; have := HSZ.out; omega) id).trans HI2.out)
        replace HI0 := Lib.hid (((keep_drewN (fun _ => False) w3 nq).block q (by have := HK2.out.size; have := HSZ.out; omega) id).trans HI0.out)
        replace HK2 := Lib.hid (Keep.trans HK2.out (keep_drewN (fun k => w1.heap.size ≤ k) w3 nq))
        clear x0 x5 x7 x12 x13 d2 d3
        ((with_reducible refine (HMU.out _).mono ?_); rintro ee w4 ⟨rfl, hk3⟩)
        replace HI2 := Lib.hid ((hk3.block (q + 1) (by have := HK2.out.size; have := HSZ.out; omega) id).trans HI2.out)
        replace HI0 := Lib.hid ((hk3.block q (by have := HK2.out.size; have := HSZ.out; omega) id).trans HI0.out)
        replace HK2 := Lib.hid (Keep.trans HK2.out (Since.of (n := w1.heap.size) hk3))
        clear hk3
        have x0 := (blk_cell HI2.out 0).trans rfl
        have x5 := (blk_cell HI2.out 5).trans rfl
        have x7 := (blk_cell HI2.out 7).trans rfl
        have x12 := (blk_cell HI2.out 12).trans rfl
        have x13 := (blk_cell HI2.out 13).trans rfl
        have d2 := (blk_cell HI0.out 2).trans rfl
        have d3 := (blk_cell HI0.out 3).trans rfl
        go_wp2_with fail
        go_meet
        exact HK2
      · have hxM : ex < (M : Int) := by have := (HEX.out (by omega)).1; rw [HMM.out] at this; exact this
        have HMY := Lib.hid (fun w => may_any op w)
        rw [show mayOp op = true from HSH.out.expos (by dsimp only; omega)] at HMY
        go_wp2_with fail
        have HI2 := Lib.hid HBB.out.2
        have HI0 := Lib.hid HBB.out.1
        have HK2 := Lib.hid (Keep.refl (fun k => w1.heap.size ≤ k) w1)
        ((with_reducible refine HFD.out.mono ?_); rintro ee w2 ⟨rfl, hk3⟩)
        replace HI2 := Lib.hid ((hk3.block (q + 1) (by have := HK2.out.size; have := HSZ.out; omega) (by have := HK2.out.size; have := HSZ.out; omega)).trans HI2.out)
        replace HI0 := Lib.hid ((hk3.block q (by have := HK2.out.size; have := HSZ.out; omega) (by have := HK2.out.size; have := HSZ.out; omega)).trans HI0.out)
        replace HK2 := Lib.hid (Keep.trans HK2.out (Since.mono hk3 HK2.out.size))
        clear hk3
        clear y0 y1 y2 y3 y4 y5 y6 y7 y8 y9 y10 y11 y12 y13
        have x0 := (blk_cell HI2.out 0).trans rfl
        have x5 := (blk_cell HI2.out 5).trans rfl
        have x7 := (blk_cell HI2.out 7).trans rfl
        have x12 := (blk_cell HI2.out 12).trans rfl
        have x13 := (blk_cell HI2.out 13).trans rfl
        have d2 := (blk_cell HI0.out 2).trans rfl
        have d3 := (blk_cell HI0.out 3).trans rfl
        go_wp2_with fail
        clear x0 x5 x7 x12 x13 d2 d3
        ((with_reducible refine (HRP.out _).mono ?_); rintro ee w3 ⟨rfl, hk3⟩)
        replace HI2 := Lib.hid ((hk3.block (q + 1) (by have := HK2.out.size; have := HSZ.out; omega) id).trans HI2.out)
        replace HI0 := Lib.hid ((hk3.block q (by have := HK2.out.size; have := HSZ.out; omega) id).trans HI0.out)
        replace HK2 := Lib.hid (Keep.trans HK2.out (Since.of (n := w1.heap.size) hk3))
        clear hk3
        have x0 := (blk_cell HI2.out 0).trans rfl
        have x5 := (blk_cell HI2.out 5).trans rfl
        have x7 := (blk_cell HI2.out 7).trans rfl
        have x12 := (blk_cell HI2.out 12).trans rfl
        have x13 := (blk_cell HI2.out 13).trans rfl
        have d2 := (blk_cell HI0.out 2).trans rfl
        have d3 := (blk_cell HI0.out 3).trans rfl
        go_wp2_with fail
        go_quiet (fail)
        go_wp2_with fail
        replace HI2 := Lib.hid (((keep_drewN (fun _ => False) w3 nq).block (q + 1) (by have := HK2.out.size; have := HSZ.out; omega) id).trans HI2.out)
        replace HI0 := Lib.hid (((keep_drewN (fun _ => False) w3 nq).block q (by have := HK2.out.size; have := HSZ.out; omega) id).trans HI0.out)
        replace HK2 := Lib.hid (Keep.trans HK2.out (keep_drewN (fun k => w1.heap.size ≤ k) w3 nq))
        clear x0 x5 x7 x12 x13 d2 d3
        ((with_reducible refine (HMY.out _).mono ?_); rintro ee w4 ⟨rfl, hk3⟩)
        replace HI2 := Lib.hid ((hk3.block (q + 1) (by have := HK2.out.size; have := HSZ.out; omega) id).trans HI2.out)
        replace HI0 := Lib.hid ((hk3.block q (by have := HK2.out.size; have := HSZ.out; omega) id).trans HI0.out)
        replace HK2 := Lib.hid (Keep.trans HK2.out (Since.of (n := w1.heap.size) hk3))
        clear hk3
        have x0 := (blk_cell HI2.out 0).trans rfl
        have x5 := (blk_cell HI2.out 5).trans rfl
        have x7 := (blk_cell HI2.out 7).trans rfl
        have x12 := (blk_cell HI2.out 12).trans rfl
        have x13 := (blk_cell HI2.out 13).trans rfl
        have d2 := (blk_cell HI0.out 2).trans rfl
        have d3 := (blk_cell HI0.out 3).trans rfl
        go_wp2_with fail
        go_meet
        exact HK2
  case rest =>
    have HK2 := Lib.hid hcut.out
    have HI2 := Lib.hid ((hcut.out.block (q + 1) (by have := HSZ.out; omega) (by have := HSZ.out; omega)).trans HBB.out.2)
    have HI0 := Lib.hid ((hcut.out.block q (by have := HSZ.out; omega) (by have := HSZ.out; omega)).trans HBB.out.1)
    have HSW : Hid (Since w.heap.size w wc) := Lib.hid (Keep.trans (Since.of HK1.out) (Keep.mono hcut.out (fun k e => by have := HSZ.out; have := HQ.out; omega)))
    have HTc := Lib.hid (HT.out.since HSW.out)
    have HFTc := Lib.hid (RI.Fits.keep HFT.out HSW.out (fun g cur hg e => by have := blk_lt hg; omega) (fun g cur hg e => by have := blk_lt hg; omega))
    clear hcut
    have HUS := Lib.hid (show Calls Tryd.prog 39 #[.agg #[.int .i64 op, .int .i64 a, .int .i64 b, .int .i64 c, .int .i64 nn, .slice A2 args.length ca2, .int .i64 kk, .int .i64 kn, .string (sb ks), .slice N2 names.length cn2, .int .i64 pf, .int .i64 pl, .int .i64 ex, .bool once]] wc _ from gused_any ⟨⟨op, a, b, c, nn, args, kk, kn, ks, names, pf, pl, ex, once⟩, A2, ca2, N2, cn2⟩ HFTc.out)
    have HUV := Lib.hid (show ∀ v ∈ (RI.x ⟨⟨op, a, b, c, nn, args, kk, kn, ks, names, pf, pl, ex, once⟩, A2, ca2, N2, cn2⟩).uses, VB T k v from HSH.out.uses_vb)
    have HUF := Lib.hid (show (RI.x ⟨⟨op, a, b, c, nn, args, kk, kn, ks, names, pf, pl, ex, once⟩, A2, ca2, N2, cn2⟩).uses.length ≤ 4 from HSH.out.uses_few HR.out.p1.2)
    dsimp only at HUS HUV HUF
    obtain ⟨us, hus⟩ : ∃ us, TI.uses ⟨op, a, b, c, nn, args, kk, kn, ks, names, pf, pl, ex, once⟩ = us := ⟨_, rfl⟩
    rw [hus] at HUS HUV HUF
    clear hus
    have y0 := (blk_cell HI2.out 0).trans rfl
    have y1 := (blk_cell HI2.out 1).trans rfl
    have y2 := (blk_cell HI2.out 2).trans rfl
    have y3 := (blk_cell HI2.out 3).trans rfl
    have y4 := (blk_cell HI2.out 4).trans rfl
    have y5 := (blk_cell HI2.out 5).trans rfl
    have y6 := (blk_cell HI2.out 6).trans rfl
    have y7 := (blk_cell HI2.out 7).trans rfl
    have y8 := (blk_cell HI2.out 8).trans rfl
    have y9 := (blk_cell HI2.out 9).trans rfl
    have y10 := (blk_cell HI2.out 10).trans rfl
    have y11 := (blk_cell HI2.out 11).trans rfl
    have y12 := (blk_cell HI2.out 12).trans rfl
    have y13 := (blk_cell HI2.out 13).trans rfl
    go_wp2_with fail
    ((with_reducible refine HUS.out.mono ?_); rintro ee w2 ⟨⟨Au, cu, rfl, hiu⟩, hk3⟩)
    replace HI2 := Lib.hid ((hk3.block (q + 1) (by have := HK2.out.size; have := HSZ.out; omega) id).trans HI2.out)
    replace HI0 := Lib.hid ((hk3.block q (by have := HK2.out.size; have := HSZ.out; omega) id).trans HI0.out)
    replace HK2 := Lib.hid (Keep.trans HK2.out (Since.of (n := w1.heap.size) hk3))
    replace HTc := Lib.hid (HTc.out.quiet hk3)
    have HIU := Lib.hid hiu
    clear hk3 hiu HUS y0 y1 y2 y3 y4 y5 y6 y7 y8 y9 y10 y11 y12 y13 HFTc
    obtain ⟨L, hL⟩ : ∃ L, us.length = L := ⟨_, rfl⟩
    rw [hL] at HIU HUF
    rw [hL]
    have HLL := Lib.hid hL
    have hL4 := HUF.out
    clear hL
    go_wp2_with fail
    go_loopw [10, 122] (fun _ i wr => ∃ j : Nat, j ≤ L ∧ i = .int .i64 (j : Int) ∧ Hid (Keep (fun _ => False) w2 wr)) (fun _ i _ => L + 1 - (RowKit.intOf i).toNat)
    case atStart => exact ⟨0, Nat.zero_le _, rfl, Lib.hid (Keep.refl _ _)⟩
    case round =>
      obtain ⟨j, hj, rfl, HW⟩ := hrel
      obtain ⟨wo, rfl⟩ : ∃ wo : World, wo = wr := ⟨_, rfl⟩
      have hb0 := (HW.out.block q (by have := HK2.out.size; have := HSZ.out; omega) id).trans HI0.out
      have d0 := (blk_cell hb0 0).trans rfl
      have d1 := (blk_cell hb0 1).trans rfl
      have d2 := (blk_cell hb0 2).trans rfl
      have d3 := (blk_cell hb0 3).trans rfl
      have d4 := (blk_cell hb0 4).trans rfl
      by_cases hlt : j < L
      · have hb1 : decide (j < L) = true := by simpa using hlt
        obtain ⟨bu, ou, rfl, u0⟩ := (show IntsAt wo Au L us from CellsAt.keep HIU.out HW.out (fun _ _ => id)).at_ j hlt
        have hvb : VB T k (us.getD j 0) := HUV.out _ (getD_mem (by rw [HLL.out]; exact hlt))
        obtain ⟨v, hv⟩ : ∃ v, us.getD j 0 = v := ⟨_, rfl⟩
        rw [hv] at u0 hvb
        have HTo := Lib.hid (HTc.out.quiet HW.out)
        have HVV := Lib.hid (gval_any HTo.out hvb (Nat.le_of_lt HKN.out) (by rw [HN.out]; omega) mp)
        unfold chkV at HVV
        rw [HN.out, HMM.out] at HVV
        obtain ⟨u, rfl, huk, hop⟩ := hvb
        have HN17 := Lib.hid ((HR.out.good.shape u (by have := HKN.out; omega)).1.no17)
        have HUK := Lib.hid huk
        have HB0' := Lib.hid hb0
        clear hv hop hb0 huk
        go_wp2_with fail
        ((with_reducible refine HVV.out.mono ?_); rintro ee w3 ⟨rfl, hk3⟩)
        have b0 := (hk3.block q (blk_lt' HB0'.out) id).trans HB0'.out
        have e2 := (blk_cell b0 2).trans rfl
        obtain ⟨g9, e9, x0⟩ := (HTo.out.quiet hk3).opAt (k := u) (by have := HKN.out; have := HUK.out; omega)
        obtain rfl : g = g9 := by
          have := Option.some.inj e9
          injection this with a
        obtain ⟨op9, ho⟩ : ∃ op, (T.at_ u).op = op := ⟨_, rfl⟩
        have hop := HN17.out
        rw [ho] at x0 hop
        have huN : u < N := by have := HKN.out; have := HUK.out; have := HN.out; omega
        replace HW := Lib.hid (Keep.trans HW.out hk3)
        clear hk3 b0 e9 ho d0 d1 d2 d3 d4 u0
        go_wp2_with fail
        exact ⟨⟨j + 1, by omega, by go_num, HW⟩, by simp [RowKit.intOf]; omega⟩
      · have hb1 : decide (j < L) = false := by simpa using hlt
        obtain rfl : j = L := by omega
        have hb2 := (HW.out.block (q + 1) (by have := HK2.out.size; have := HSZ.out; omega) id).trans HI2.out
        have y12 := (blk_cell hb2 12).trans rfl
        have HSO := Lib.hid (show Since w.heap.size w wo from Keep.trans (Since.of HK1.out) (Keep.trans (Keep.mono HK2.out (F' := fun b => w.heap.size ≤ b) (fun k e => by have := HSZ.out; have := HQ.out; omega)) (Since.of HW.out)))
        have HFB := Lib.hid (HM.out.keep HSO.out (show ¬ (w.heap.size ≤ mp) by omega))
        by_cases hex : ex < 0
        · have hnn : ¬ (0 ≤ ex) := by omega
          clear d0 d1 d2 d3 d4 hb0 hb2
          go_wp2_with fail
          go_ret
          refine ⟨rfl, Keep.mono HSO.out (fun _ e => .inr e), cn, by omega, ?_⟩
          have h9 := HFB.out
          first | exact h9 | (simp only [if_neg (show ¬ (0 ≤ ex) by omega)]; exact h9)
        · have h0 : 0 ≤ ex := by omega
          obtain ⟨hxM, hxo⟩ := HEX.out h0
          obtain ⟨nx, rfl⟩ : ∃ nx : Nat, ex = (nx : Int) := ⟨ex.toNat, by omega⟩
          have hM60 := HXF.out
          rw [HMM.out] at hxM hM60
          have hlk := HFB.out.look (t := 97) Tryd.underlying3 Tryd.underlying97 Tryd.underlying4 (by kernel_rfl) (i := (nx : Int)) (wf64 (by omega))
          rw [HS.out h0] at hlk
          obtain ⟨wd, hput, hfd, hkd⟩ := HFB.out.put (t := 97) Tryd.underlying3 Tryd.underlying97 Tryd.underlying4 (by unfold maxLen; omega) (i := (nx : Int)) (wf64 (by omega))
          obtain ⟨me, mc, hmo⟩ := fb_obj HFB.out
          have HTD := Lib.hid (TA.keepm (HTc.out.quiet HW.out) hkd (fun g cur t hg e => by subst e; rw [hmo] at hg; cases hg))
          have HFD := Lib.hid hfd
          have HKD := Lib.hid hkd
          have hmq : mp < q := by have := HQ.out; omega
          have HD0 := Lib.hid ((hkd.block q (blk_lt' hb0) (by omega)).trans hb0)
          have HD2 := Lib.hid ((hkd.block (q + 1) (blk_lt' hb2) (by omega)).trans hb2)
          have z2 := (blk_cell HD0.out 2).trans rfl
          have z3 := (blk_cell HD0.out 3).trans rfl
          have z12 := (blk_cell HD2.out 12).trans rfl
          have HOK : Hid (ExOK T k (T.exits.getD nx TX.dflt)) := Lib.hid (by
            have h9 := hxo
            unfold TR.ext at h9
            rw [← HX.out] at h9
            exact h9)
          have hnxM : nx < M := by omega
          clear hfd hkd hmo hxo hb0 hb2
          go_upto_region 24 with (fail)
          have HTE := Lib.hid (HTD.out.quiet (keep_draw _ wd))
          obtain ⟨gx, rfl, hxx, hxm, hxc⟩ := HTE.out.cellsX (k := nx) (by rw [HMM.out]; omega)
          obtain ⟨rx, hrx⟩ : ∃ rx, X.getD nx RX.dflt = rx := ⟨_, rfl⟩
          rw [hrx] at hxx hxm hxc
          have HRF := Lib.hid (HTE.out.fitX _ hxm)
          obtain ⟨xx, AF, cF, FF⟩ := rx
          dsimp only at hxx
          rw [← hxx] at HOK
          have c0 : wd.drew.cell? ⟨gx, nx * 3, none⟩ = some (.slice AF FF.length cF) := (hxc 0 (by omega)).trans rfl
          have c1 : wd.drew.cell? ⟨gx, nx * 3 + 1, none⟩ = some (.slice none 0 0) := (hxc 1 (by omega)).trans rfl
          have c2 : wd.drew.cell? ⟨gx, nx * 3 + 2, none⟩ = some (.int .i64 xx.back) := (hxc 2 (by omega)).trans rfl
          have HXI := Lib.hid (gexit_any HTE.out HR.out HKN.out ⟨xx, AF, cF, FF⟩ HRF.out HOK.out mp)
          unfold chkV RX.cells at HXI
          dsimp only at HXI
          rw [HN.out, HMM.out] at HXI
          obtain ⟨LF, hLF⟩ : ∃ n, FF.length = n := ⟨_, rfl⟩
          obtain ⟨bk, hbk⟩ : ∃ n, xx.back = n := ⟨_, rfl⟩
          rw [hLF] at c0 HXI
          rw [hbk] at c2 HXI
          clear hLF hbk hxc hxm hrx hxx hput hlk z2 z3 z12 d0 d1 d2 d3 d4
          refine wp_region_drewU (S := (fun w' => Hid (w'.heap[q]? = some (.cells #[.int .i64 T.pf, .int .i64 T.pl, .slice (some ⟨g, 0, none⟩) N ca, .slice (some ⟨gx, 0, none⟩) M ce, .map (some mp)] 99 (0, 0)) ∧ w'.heap[q + 1]? = some (.cells #[.int .i64 op, .int .i64 a, .int .i64 b, .int .i64 c, .int .i64 nn, .slice A2 args.length ca2, .int .i64 kk, .int .i64 kn, .string (sb ks), .slice N2 names.length cn2, .int .i64 pf, .int .i64 pl, .int .i64 (nx : Int), .bool once] 60 (0, 0)) ∧ w'.cell? ⟨gx, nx * 3, none⟩ = some (.slice AF LF cF) ∧ w'.cell? ⟨gx, nx * 3 + 1, none⟩ = some (.slice none 0 0) ∧ w'.cell? ⟨gx, nx * 3 + 2, none⟩ = some (.int .i64 bk)))) (D := [10]) (by kernel_rfl) (by exact Lib.hid ⟨HD0.out, HD2.out, c0, c1, c2⟩) (fun hH => ?_)
          refine wpAnyU_take (i := 0) (v := ?_) rfl (by kernel_rfl) (by kernel_rfl) (by kernel_rfl) (by kernel_rfl) (fun _ _ _ h => h) (Or.inl ⟨by rfl, ?_⟩) hH ?_
          rotate_left
          · (intro w'' hSw; (have f0 := (blk_cell hSw.out.1 0).trans rfl; have f1 := (blk_cell hSw.out.1 1).trans rfl; have f2 := (blk_cell hSw.out.1 2).trans rfl; have f3 := (blk_cell hSw.out.1 3).trans rfl; have f4 := (blk_cell hSw.out.1 4).trans rfl); go_simp; try with_reducible rfl)
          change wpAnyU _ _ _ _ _ _ _ _ (Act.put _ (some 154) _) _
          try simp only [Act.put, List.setIfInBounds_toArray, List.set_cons_zero, List.set_cons_succ]
          refine wpAnyU_take (i := 1) (v := ?_) rfl (by kernel_rfl) (by kernel_rfl) (by kernel_rfl) (by kernel_rfl) (fun _ _ _ h => h) (Or.inl ⟨by rfl, ?_⟩) hH ?_
          rotate_left
          · (intro w'' hSw; (try dsimp only at hSw); go_simp; try with_reducible rfl)
          change wpAnyU _ _ _ _ _ _ _ _ (Act.put _ (some 155) _) _
          try simp only [Act.put, List.setIfInBounds_toArray, List.set_cons_zero, List.set_cons_succ]
          refine wpAnyU_take (i := 2) (v := ?_) rfl (by kernel_rfl) (by kernel_rfl) (by kernel_rfl) (by kernel_rfl) (fun _ _ _ h => h) (Or.inl ⟨by rfl, ?_⟩) hH ?_
          rotate_left
          · (intro w'' hSw; (try dsimp only at hSw); go_simp; try with_reducible rfl)
          change wpAnyU _ _ _ _ _ _ _ _ (Act.put _ (some 156) _) _
          try simp only [Act.put, List.setIfInBounds_toArray, List.set_cons_zero, List.set_cons_succ]
          refine wpAnyU_take (i := 3) (v := ?_) rfl (by kernel_rfl) (by kernel_rfl) (by kernel_rfl) (by kernel_rfl) (fun _ _ _ h => h) (Or.inl ⟨by rfl, ?_⟩) hH ?_
          rotate_left
          · (intro w'' hSw; (have f3 := (blk_cell hSw.out.1 3).trans rfl); go_simp; try with_reducible rfl)
          change wpAnyU _ _ _ _ _ _ _ _ (Act.put _ (some 157) _) _
          try simp only [Act.put, List.setIfInBounds_toArray, List.set_cons_zero, List.set_cons_succ]
          refine wpAnyU_take (i := 4) (v := ?_) rfl (by kernel_rfl) (by kernel_rfl) (by kernel_rfl) (by kernel_rfl) (fun _ _ _ h => h) (Or.inl ⟨by rfl, ?_⟩) hH ?_
          rotate_left
          · (intro w'' hSw; (try dsimp only at hSw); go_simp; try with_reducible rfl)
          change wpAnyU _ _ _ _ _ _ _ _ (Act.put _ (some 158) _) _
          try simp only [Act.put, List.setIfInBounds_toArray, List.set_cons_zero, List.set_cons_succ]
          refine wpAnyU_take (i := 5) (v := ?_) rfl (by kernel_rfl) (by kernel_rfl) (by kernel_rfl) (by kernel_rfl) (fun _ _ _ h => h) (Or.inl ⟨by rfl, ?_⟩) hH ?_
          rotate_left
          · (intro w'' hSw; (have f12 := (blk_cell hSw.out.2.1 12).trans rfl); go_simp; try with_reducible rfl)
          change wpAnyU _ _ _ _ _ _ _ _ (Act.put _ (some 159) _) _
          try simp only [Act.put, List.setIfInBounds_toArray, List.set_cons_zero, List.set_cons_succ]
          refine wpAnyU_take (i := 6) (v := ?_) rfl (by kernel_rfl) (by kernel_rfl) (by kernel_rfl) (by kernel_rfl) (fun _ _ _ h => h) (Or.inl ⟨by rfl, ?_⟩) hH ?_
          rotate_left
          · (intro w'' hSw; (try dsimp only at hSw); go_simp; try with_reducible rfl)
          change wpAnyU _ _ _ _ _ _ _ _ (Act.put _ (some 160) _) _
          try simp only [Act.put, List.setIfInBounds_toArray, List.set_cons_zero, List.set_cons_succ]
          refine wpAnyU_take (i := 7) (v := ?_) rfl (by kernel_rfl) (by kernel_rfl) (by kernel_rfl) (by kernel_rfl) (fun _ _ _ h => h) (Or.inl ⟨by rfl, ?_⟩) hH ?_
          rotate_left
          · (intro w'' hSw; (have f0 := hSw.out.2.2.1; have f1 := hSw.out.2.2.2.1; have f2 := hSw.out.2.2.2.2); go_simp; try with_reducible rfl)
          change wpAnyU _ _ _ _ _ _ _ _ (Act.put _ (some 161) _) _
          try simp only [Act.put, List.setIfInBounds_toArray, List.set_cons_zero, List.set_cons_succ]
          refine wpAnyU_take (i := 8) (v := ?_) rfl (by kernel_rfl) (by kernel_rfl) (by kernel_rfl) (by kernel_rfl) (fun _ _ _ h => h) (Or.inl ⟨by rfl, ?_⟩) hH ?_
          rotate_left
          · (intro w'' hSw; (try dsimp only at hSw); go_simp; try with_reducible rfl)
          change wpAnyU _ _ _ _ _ _ _ _ (Act.put _ (some 162) _) _
          try simp only [Act.put, List.setIfInBounds_toArray, List.set_cons_zero, List.set_cons_succ]
          refine wpAnyU_ready (rs := [9]) (by kernel_rfl) (by simp) ?_
          refine AllReadyU.cons rfl (fun Kn hKn => ?_) AllReadyU.nil
          go_simp
          go_at_call 71
          (with_reducible refine HXI.out.mono ?_)
          rintro ee we ⟨rfl, hke⟩
          have HKE := Lib.hid hke
          have HKF := Lib.hid (show Since wd.heap.size wd we from Keep.trans (keep_draw _ wd) hke)
          clear hke
          refine hKn.out _ _ ?_ (fun hH => ?_)
          · (obtain ⟨s0, s1, s2, s3, s4⟩ := hH.out; exact Lib.hid ⟨(HKE.out.block _ (blk_lt' s0) (Nat.not_le_of_lt (blk_lt' s0))).trans s0, (HKE.out.block _ (blk_lt' s1) (Nat.not_le_of_lt (blk_lt' s1))).trans s1, (HKE.out.cell (cell_lt s2) (Nat.not_le_of_lt (cell_lt s2))).trans s2, (HKE.out.cell (cell_lt s3) (Nat.not_le_of_lt (cell_lt s3))).trans s3, (HKE.out.cell (cell_lt s4) (Nat.not_le_of_lt (cell_lt s4))).trans s4⟩)
          clear hKn Kn
          try simp only [Act.put, List.setIfInBounds_toArray, List.set_cons_zero, List.set_cons_succ]
          refine wpAnyU_pure (i := 10) (v := ?_) rfl (by kernel_rfl) (by kernel_rfl) (by kernel_rfl) (by rfl) (fun _ _ _ h => h) (Or.inl ⟨by rfl, ?_⟩) ?_
          rotate_left
          · (intro w'' _; go_simp; try with_reducible rfl)
          change wpAnyU _ _ _ _ _ _ _ _ (Act.put _ (some 6) _) _
          try simp only [Act.put, List.setIfInBounds_toArray, List.set_cons_zero, List.set_cons_succ]
          refine wpAnyU_done (by kernel_rfl) ?_ _
          go_wp2_with fail
          go_ret
          refine ⟨rfl, ?_, (if S (nx : Int) then cn else cn + 1), by split <;> omega, ?_⟩
          · exact Keep.trans (Keep.mono HSO.out (fun _ e => .inr e)) (Keep.trans (Keep.mono HKD.out (fun _ e => .inl e)) (Keep.mono HKF.out (fun k e => .inr (by have h1 := HKD.out.size; have h2 := HSO.out.size; change wd.heap.size ≤ k at e; omega))))
          · have h9 := HFD.out.keep HKF.out (by have h1 := HKD.out.size; have h2 := HSO.out.size; show ¬ (wd.heap.size ≤ mp); omega)
            first | exact h9 | (simp only [if_pos h0]; exact h9) | (simp at h9 ⊢; exact h9)
end
end Go.Proofs.YtnbpgipbfejllaaDoor
