/- graph: a function that ranges over iterators leaves; the objects of an exit that has none. -/
import Derived.Test.YtnbpgipbfejllaaDoorMG28
import Derived.Test.YtnbpgipbfejllaaDoorMG21
import Derived.Test.YtnbpgipbfejllaaDoorMK0
import Derived.Test.YtnbpgipbfejllaaDoorMG46
import Derived.Test.YtnbpgipbfejllaaDoorMG16
import Derived.Deep.Cut
namespace Go.Proofs.YtnbpgipbfejllaaDoor
open Go.RowKit Go.Lib
set_option linter.unusedVariables false
set_option linter.unusedSimpArgs false

theorem ifun_none (A : Option Addr) (c : Nat) (f : Value) (w : World) : Calls Tryd.prog 61 #[.slice A 0 c, f] w fun e w' => e = .returned (.int .i64 (-1)) ∧ w = w' := by
  go_enter Tryd.func61, Tryd.ntmps61
  go_wp2_with fail
  go_loopw [5, 8] (fun x i wr => i = .int .i64 0 ∧ Hid (w = wr)) (fun _ i _ => 1)
  case atStart => exact ⟨rfl, Lib.hid rfl⟩
  case round =>
    obtain ⟨rfl, HW⟩ := hrel
    obtain ⟨wo, rfl⟩ : ∃ wo : World, wo = wr := ⟨_, rfl⟩
    obtain rfl := HW.out
    go_wp2_with fail
    go_ret
    exact ⟨rfl, rfl⟩
theorem cfun_none (A : Option Addr) (c : Nat) (f : Value) (w : World) : Calls Tryd.prog 41 #[.slice A 0 c, f] w fun e w' => e = .returned (.bool false) ∧ w = w' := by
  have HI := Lib.hid (ifun_none A c f w)
  go_enter Tryd.func41, Tryd.ntmps41
  go_wp2_with fail
  ((with_reducible refine HI.out.mono ?_); rintro ee w' ⟨rfl, rfl⟩)
  go_wp2_with fail
  go_ret
  exact ⟨rfl, rfl⟩
def mark (D : Nat) : Deferred := { target := .collected D, args := #[] }
theorem put_ne (w : World) (D : Nat) (o : Obj) {k : Nat} (h : k ≠ D) : (w.putObj D o).heap[k]? = w.heap[k]? := by
  by_cases hk : k < w.heap.size
  · exact ((Keep.refl (fun i => i = D) w).grown (grownBy_putObj' w D o) (fun i e => .inl (by cases e; rfl))).block k hk h
  · have h2 : ¬ k < (w.putObj D o).heap.size := by
      simp [World.putObj]
      omega
    rw [Array.getElem?_eq_none (by omega), Array.getElem?_eq_none (by omega)]
theorem leaves_marks {F : Fence} {n : Nat} {P : Program} {fn : Func} {tmps : Array Value} {R : Ending → World → Prop} {u : FrameMode} (hu : u ≠ .run) {B : Nat} (Kw : World → Prop) (hend : ∀ w, Kw w → LeavesIn F n P fn tmps R [] u w)
    (hput : ∀ w D, Kw w → w.heap[D]? = some (.deferred (some [])) → B ≤ D → Kw (w.putObj D (.deferred none))) :
    ∀ (Ds : List Nat) (w : World), Ds.Nodup → (∀ D ∈ Ds, B ≤ D ∧ w.heap[D]? = some (.deferred (some []))) → Kw w → LeavesInM F n P fn tmps R (Ds.map mark) u w
  | [], w, _, _, hk => hend w hk
  | D :: Ds, w, hn, hd, hk => by
    obtain ⟨h1, h2⟩ := hd D (.head _)
    refine ⟨hu, .inl ⟨D, _, rfl, run_takeDeferred h2, leaves_marks hu Kw hend hput Ds _ (List.nodup_cons.1 hn).2 (fun D' hD' => ?_) (hput w D hk h2 h1)⟩⟩
    obtain ⟨h3, h4⟩ := hd D' (.tail _ hD')
    exact ⟨h3, (put_ne w D _ (fun e => (List.nodup_cons.1 hn).1 (e ▸ hD'))).trans h4⟩
end Go.Proofs.YtnbpgipbfejllaaDoor
/- graph: Uses (the program's). -/
namespace Go.Proofs.YtnbpgipbfejllaaDoor
open Go.RowKit Go.Lib
set_option linter.unusedVariables false
set_option linter.unusedSimpArgs false
attribute [local go_sem] Oper.semAt_some

theorem mark_ne {w : World} {D base size n : Nat} {x : Option (List Deferred)} {e : TypeId} {v : Value} {xs : List Value} (hD : w.heap[D]? = some (.deferred x)) (h : w.ownsRow base e size v n xs) : v.ownBlock ≠ some D := by
  intro hh
  rcases h.2 with ⟨rfl, _⟩ | ⟨g, cap, cur, rfl, _, h4, _⟩
  · cases hh
  · have : g = D := by simpa [Value.ownBlock] using hh
    subst this
    rw [hD] at h4
    cases h4
theorem keep_setF {F : Nat → Prop} {b : Nat} (W : World) (h : F b) (i : Nat) (v : Value) : Keep F W (W.setCell ⟨b, i, none⟩ v) := Keep.mono (keep_set (Keep.refl (fun k => k = b) W) i v) (fun k e => by subst e; exact h)
theorem keep_new {w w1 w2 : World} {b : Nat} (h : Keep (fun _ => False) w w1) (hb : w.heap.size ≤ b) (hk : Keep (fun i => i = b) w1 w2) : Keep (fun _ => False) w w2 :=
  h.then hk (fun i e => .inr (by subst e; exact hb))
theorem names_rows (x : TX) (v : Int) : x.names v = decide (v ∈ x.rows.flatten) := by
  unfold TX.names TX.rows
  rw [Bool.eq_iff_iff]
  simp only [List.any_eq_true, decide_eq_true_eq, List.mem_flatten, List.mem_map]
  constructor
  · rintro ⟨f, h1, h2⟩; exact ⟨_, ⟨f, h1, rfl⟩, h2⟩
  · rintro ⟨_, ⟨f, h1, rfl⟩, h2⟩; exact ⟨f, h1, h2⟩
def anyV (v : Nat) (l : List {x : Int // True}) : Bool := l.any fun x => x.1 == (v : Int)
theorem anyV_snoc (v : Nat) (l : List {x : Int // True}) (x : {x : Int // True}) : anyV v (l ++ [x]) = (anyV v l || x.1 == (v : Int)) := by unfold anyV; rw [List.any_append]; simp only [List.any_cons, List.any_nil, Bool.or_false]
theorem any_rows {l : List {x : Int // True}} {L : List Int} (h : l.map (·.1) = L) (v : Nat) : anyV v l = decide ((v : Int) ∈ L) := by
  subst h
  unfold anyV
  rw [Bool.eq_iff_iff]
  simp only [List.any_eq_true, decide_eq_true_eq, List.mem_map, beq_iff_eq]
def noP (Q : Exit → Act → World → Prop) : Exit → Act → World → Prop
  | .panic _, _, _ => False
  | e, a, w => Q e a w
theorem noP_of {Q : Exit → Act → World → Prop} {e : Exit} {a : Act} {w : World} (h : noP Q e a w) : Q e a w := by
  cases e <;> first | exact h | exact False.elim h
/-- What stands while the instructions are gone through. -/
structure UL (w1 : World) (T : TR) (v k : Nat) (RR : Option Addr) (cc : Nat) (Ds : List Nat) (W : World) : Prop where
  own : W.ownsRow w1.heap.size 3 1 (.slice RR (T.usesTo v k).length cc) (T.usesTo v k).length (ints (nats (T.usesTo v k)))
  since : Since w1.heap.size w1 W
  nodup : Ds.Nodup
  marks : ∀ D ∈ Ds, w1.heap.size ≤ D ∧ W.heap[D]? = some (.deferred (some []))
section
variable {w w' : World} {A : Option Addr} {ca : Nat} {E : Option Addr} {ce : Nat} {R : List RI} {X : List RX} {T : TR}
theorem UL.turn {w1 : World} {v k : Nat} {RR : Option Addr} {cc : Nat} {Ds : List Nat} {W W' : World} {F : Nat → Prop} (h : UL w1 T v k RR cc Ds W) (hk : Keep F W W') (h1 : ∀ i, F i → w1.heap.size ≤ i) (h2 : ∀ i, (Value.slice RR (T.usesTo v k).length cc).ownBlock = some i → ¬ F i) (h3 : ∀ D ∈ Ds, ¬ F D) : UL w1 T v k RR cc Ds W' :=
  ⟨hk.own h.own h2, Keep.trans h.since (Keep.mono hk h1), h.nodup, fun D hD => ⟨(h.marks D hD).1, (hk.block D (blk_lt' (h.marks D hD).2) (h3 D hD)).trans (h.marks D hD).2⟩⟩
theorem UL.quiet {w1 : World} {v k : Nat} {RR : Option Addr} {cc : Nat} {Ds : List Nat} {W W' : World} (h : UL w1 T v k RR cc Ds W) (hk : Keep (fun _ => False) W W') : UL w1 T v k RR cc Ds W' := h.turn hk (fun _ e => e.elim) (fun _ _ e => e) (fun _ _ e => e)
theorem UL.own_lt {w1 : World} {v k : Nat} {RR : Option Addr} {cc : Nat} {Ds : List Nat} {W : World} (h : UL w1 T v k RR cc Ds W) {i : Nat} (e : (Value.slice RR (T.usesTo v k).length cc).ownBlock = some i) : i < W.heap.size ∧ ∃ cur, W.heap[i]? = some (.cells cur 3 (0, 0)) := by
  rcases h.own.2 with ⟨e1, _⟩ | ⟨g, cap, cur, e1, _, h4, _⟩
  · rw [e1] at e; cases e
  · rw [e1] at e
    have : g = i := by simpa [Value.ownBlock] using e
    subst this
    exact ⟨blk_lt' h4, cur, h4⟩
set_option maxRecDepth 100000 in
set_option maxHeartbeats 16000000 in
theorem guses_any {P : Nat} (h : TA w A ca E ce R X T) (hr : RightT P T) (v : Nat) : Calls Tryd.prog 22 #[trV A ca E ce T, .int .i64 (v : Int)] w fun e w' => (∃ A' c', e = .returned (.slice A' (T.usesTo v T.ins.length).length c') ∧ IntsAt w' A' (T.usesTo v T.ins.length).length (nats (T.usesTo v T.ins.length))) ∧ Since w.heap.size w w' := by
  have HR := Lib.hid hr
  have HK := Lib.hid (show Keep (fun _ => False) w ((w.alloc (.cells #[.int .i64 T.pf, .int .i64 T.pl, .slice A T.ins.length ca, .slice E T.exits.length ce] 31)).alloc (.cells #[.int .i64 (v : Int)] 3)) from ((Keep.refl (fun _ => False) w).alloc' _).alloc' _)
  have HT := Lib.hid (h.quiet HK.out)
  have HB := Lib.hid (@blk_two w (.cells #[.int .i64 T.pf, .int .i64 T.pl, .slice A T.ins.length ca, .slice E T.exits.length ce] 31) (.cells #[.int .i64 (v : Int)] 3))
  have hfew := hr.few
  have hxf := Nat.le_trans hr.good.few hr.few
  obtain ⟨N, hN⟩ : ∃ N, T.ins.length = N := ⟨_, rfl⟩
  obtain ⟨M, hM⟩ : ∃ M, T.exits.length = M := ⟨_, rfl⟩
  have HN := Lib.hid hN
  have HMM := Lib.hid hM
  unfold trV
  rw [hN] at hfew
  rw [hM] at hxf
  rw [hN, hM] at HK HB HT
  rw [hN, hM]
  clear h hr hN hM
  refine (callsIn_wide (n := 6)).1 ?_
  refine callsIn_of_wp_marks Tryd.func22 rfl trivial ?_ rfl
  simp only [Tryd.ntmps22, List.size_toArray, List.length_cons, List.length_nil, Nat.reduceAdd, Nat.reduceSub, Array.replicate_succ, Array.replicate_zero, List.push_toArray, List.append_toArray, List.nil_append, List.cons_append]
  refine wpIn_wide.2 ?_
  obtain ⟨Q, hQ⟩ : ∃ Q, bodyPostM Fence.wide 6 Tryd.prog Tryd.f22 (fun e w' => (∃ A' c', e = .returned (.slice A' (T.usesTo v N).length c') ∧ IntsAt w' A' (T.usesTo v N).length (nats (T.usesTo v N))) ∧ Since w.heap.size w w') = Q := ⟨_, rfl⟩
  rw [hQ]
  have HQ := Lib.hid hQ
  clear hQ
  refine wp_mono (Q := noP Q) ?_ (fun e a w h => noP_of h)
  go_upto_region 2 with (fail)
  obtain ⟨w1, hw1⟩ : ∃ w1 : World, (w.alloc (.cells #[.int .i64 T.pf, .int .i64 T.pl, .slice A N ca, .slice E M ce] 31)).alloc (.cells #[.int .i64 (v : Int)] 3) = w1 := ⟨_, rfl⟩
  have HSZ := Lib.hid (show w1.heap.size = w.heap.size + 2 by rw [← hw1]; simp)
  obtain ⟨q, hq⟩ : ∃ q, w.heap.size = q := ⟨_, rfl⟩
  rw [hw1] at HB HK HT
  rw [hq] at HB HSZ
  rw [hw1, hq]
  have HQQ := Lib.hid hq
  clear hw1 hq
  have d2 := (blk_cell HB.out.1 2).trans rfl
  go_wp2_with fail
  clear d2
  obtain ⟨IV, hIV⟩ : ∃ IV : Act → World → Prop, (fun a' wr => ∃ (u5 u6 u7 u8 u9 u10 u14 u15 u16 u17 u18 u19 u20 u21 u22 u23 u24 u25 u26 u27 u28 u29 u30 u31 u32 u33 u34 u35 u36 u37 u38 u39 u40 u41 u42 u43 u44 u45 u46 u47 u48 u49 u50 u51 u52 u53 u54 u55 u56 u57 u58 u59 u60 u61 u62 u63 u64 : Value) (ds : List Deferred), (∃ k : Nat, k ≤ N ∧ u14 = .int .i64 (k : Int) ∧ ∃ (RR : Option Addr) (cc : Nat), u5 = .slice RR (T.usesTo v k).length cc ∧ ∃ Ds : List Nat, ds = Ds.map mark ∧ Hid (UL w1 T v k RR cc Ds wr)) ∧ a' = ⟨#[.agg #[.int .i64 T.pf, .int .i64 T.pl, .slice A N ca, .slice E M ce], .int .i64 (v : Int), .pointer (some ⟨q, 0, none⟩), .pointer (some ⟨q + 1, 0, none⟩), .slice none 0 0, u5, u6, u7, u8, u9, u10, .pointer (some ⟨q, 2, none⟩), .slice A N ca, .int .i64 (N : Int), u14, u15, u16, u17, u18, u19, u20, u21, u22, u23, u24, u25, u26, u27, u28, u29, u30, u31, u32, u33, u34, u35, u36, u37, u38, u39, u40, u41, u42, u43, u44, u45, u46, u47, u48, u49, u50, u51, u52, u53, u54, u55, u56, u57, u58, u59, u60, u61, u62, u63, u64], ds⟩) = IV := ⟨_, rfl⟩
  have HIV := Lib.hid hIV
  clear hIV
  refine wp_loop IV (fun a' _ => N + 1 - (RowKit.intOf (a'.tmps.getD 14 undef)).toNat) ?start ?round
  case start =>
    rw [← HIV.out]
    repeat apply Exists.intro
    refine ⟨?_, rfl⟩
    exact ⟨0, Nat.zero_le _, rfl, none, 0, rfl, [], rfl, Lib.hid ⟨World.ownsRow_nil _ _ _ _, Keep.refl _ _, List.nodup_nil, fun D h => by cases h⟩⟩
  case round =>
    intro a' wo hinv
    rw [← HIV.out] at hinv
    obtain ⟨u5, u6, u7, u8, u9, u10, u14, u15, u16, u17, u18, u19, u20, u21, u22, u23, u24, u25, u26, u27, u28, u29, u30, u31, u32, u33, u34, u35, u36, u37, u38, u39, u40, u41, u42, u43, u44, u45, u46, u47, u48, u49, u50, u51, u52, u53, u54, u55, u56, u57, u58, u59, u60, u61, u62, u63, u64, ds, ⟨k, hk, rfl, RR, cc, rfl, Ds, rfl, HU⟩, rfl⟩ := hinv
    have HB1 := Lib.hid ((HU.out.since.block q (by have := HSZ.out; omega) (by have := HSZ.out; omega)).trans HB.out.1)
    have HB2 := Lib.hid ((HU.out.since.block (q + 1) (by have := HSZ.out; omega) (by have := HSZ.out; omega)).trans HB.out.2)
    have hll := usesTo_len T v k
    obtain ⟨L, hL⟩ : ∃ L, (T.usesTo v k).length = L := ⟨_, rfl⟩
    have HL := Lib.hid hL
    rw [hL] at hll
    rw [hL]
    clear hL
    have n0 := (blk_cell HB2.out 0).trans rfl
    by_cases hlt : k < N
    · have hb1 : decide (k < N) = true := by simpa using hlt
      have HTo := Lib.hid (HT.out.since HU.out.since)
      obtain ⟨g, rfl, _, hx, hm, hc⟩ := HTo.out.cellsI (k := k) (by rw [HN.out]; exact hlt)
      have hft := HTo.out.fitR _ hm
      obtain ⟨r, hrr⟩ : ∃ r, R.getD k RI.dflt = r := ⟨_, rfl⟩
      rw [hrr] at hx hc hft
      obtain ⟨⟨op, a, b, c, nn, args, kk, kn, ks, names, pf, pl, ex, once⟩, A2, ca2, N2, cn2⟩ := r
      have z0 : wo.cell? ⟨g, k * 14, none⟩ = some (.int .i64 op) := (hc 0 (by omega)).trans rfl
      have z1 : wo.cell? ⟨g, k * 14 + 1, none⟩ = some (.int .i64 a) := (hc 1 (by omega)).trans rfl
      have z2 : wo.cell? ⟨g, k * 14 + 2, none⟩ = some (.int .i64 b) := (hc 2 (by omega)).trans rfl
      have z3 : wo.cell? ⟨g, k * 14 + 3, none⟩ = some (.int .i64 c) := (hc 3 (by omega)).trans rfl
      have z4 : wo.cell? ⟨g, k * 14 + 4, none⟩ = some (.int .i64 nn) := (hc 4 (by omega)).trans rfl
      have z5 : wo.cell? ⟨g, k * 14 + 5, none⟩ = some (.slice A2 args.length ca2) := (hc 5 (by omega)).trans rfl
      have z6 : wo.cell? ⟨g, k * 14 + 6, none⟩ = some (.int .i64 kk) := (hc 6 (by omega)).trans rfl
      have z7 : wo.cell? ⟨g, k * 14 + 7, none⟩ = some (.int .i64 kn) := (hc 7 (by omega)).trans rfl
      have z8 : wo.cell? ⟨g, k * 14 + 8, none⟩ = some (.string (sb ks)) := (hc 8 (by omega)).trans rfl
      have z9 : wo.cell? ⟨g, k * 14 + 9, none⟩ = some (.slice N2 names.length cn2) := (hc 9 (by omega)).trans rfl
      have z10 : wo.cell? ⟨g, k * 14 + 10, none⟩ = some (.int .i64 pf) := (hc 10 (by omega)).trans rfl
      have z11 : wo.cell? ⟨g, k * 14 + 11, none⟩ = some (.int .i64 pl) := (hc 11 (by omega)).trans rfl
      have z12 : wo.cell? ⟨g, k * 14 + 12, none⟩ = some (.int .i64 ex) := (hc 12 (by omega)).trans rfl
      have z13 : wo.cell? ⟨g, k * 14 + 13, none⟩ = some (.bool once) := (hc 13 (by omega)).trans rfl
      have HX := Lib.hid hx
      have HFT := Lib.hid hft
      clear hrr hm hc hx hft n0
      go_upto_region 5 with (fail)
      have hblk := heap_alloc_new wo (.cells #[.int .i64 op, .int .i64 a, .int .i64 b, .int .i64 c, .int .i64 nn, .slice A2 args.length ca2, .int .i64 kk, .int .i64 kn, .string (sb ks), .slice N2 names.length cn2, .int .i64 pf, .int .i64 pl, .int .i64 ex, .bool once] 60)
      have hK2 := (Keep.refl (fun _ => False) wo).alloc' (.cells #[.int .i64 op, .int .i64 a, .int .i64 b, .int .i64 c, .int .i64 nn, .slice A2 args.length ca2, .int .i64 kk, .int .i64 kn, .string (sb ks), .slice N2 names.length cn2, .int .i64 pf, .int .i64 pl, .int .i64 ex, .bool once] 60)
      obtain ⟨bi, hbi⟩ : ∃ bb, wo.heap.size = bb := ⟨_, rfl⟩
      obtain ⟨w2, hw2⟩ : ∃ w2 : World, wo.alloc (.cells #[.int .i64 op, .int .i64 a, .int .i64 b, .int .i64 c, .int .i64 nn, .slice A2 args.length ca2, .int .i64 kk, .int .i64 kn, .string (sb ks), .slice N2 names.length cn2, .int .i64 pf, .int .i64 pl, .int .i64 ex, .bool once] 60) = w2 := ⟨_, rfl⟩
      rw [hw2] at hblk hK2
      rw [hbi] at hblk
      rw [hw2, hbi]
      have HBI := Lib.hid hblk
      have HU2 := Lib.hid (HU.out.quiet hK2)
      have HFT2 := Lib.hid (RI.Fits.keep HFT.out hK2 (fun _ _ _ => id) (fun _ _ _ => id))
      have HN2 := Lib.hid ((hK2.block (q + 1) (blk_lt' HB2.out) id).trans HB2.out)
      have HTR2 := Lib.hid ((hK2.block q (blk_lt' HB1.out) id).trans HB1.out)
      have HUF := Lib.hid (show (RI.x ⟨⟨op, a, b, c, nn, args, kk, kn, ks, names, pf, pl, ex, once⟩, A2, ca2, N2, cn2⟩).uses.length ≤ 4 from by rw [HX.out]; exact (HR.out.good.shape k (by rw [HN.out]; exact hlt)).1.uses_few HR.out.p1.2)
      obtain ⟨us, hus⟩ : ∃ us, TI.uses ⟨op, a, b, c, nn, args, kk, kn, ks, names, pf, pl, ex, once⟩ = us := ⟨_, rfl⟩
      have HGU := Lib.hid (show ∀ W, Keep (fun _ => False) w2 W → Calls Tryd.prog 39 #[.agg #[.int .i64 op, .int .i64 a, .int .i64 b, .int .i64 c, .int .i64 nn, .slice A2 args.length ca2, .int .i64 kk, .int .i64 kn, .string (sb ks), .slice N2 names.length cn2, .int .i64 pf, .int .i64 pl, .int .i64 ex, .bool once]] W (fun e w' => (∃ A c, e = .returned (.slice A us.length c) ∧ IntsAt w' A us.length us) ∧ Keep (fun _ => False) W w') from fun W hW => by
        have h9 := gused_any ⟨⟨op, a, b, c, nn, args, kk, kn, ks, names, pf, pl, ex, once⟩, A2, ca2, N2, cn2⟩ (RI.Fits.keep HFT2.out hW (fun _ _ _ => id) (fun _ _ _ => id))
        dsimp only at h9
        rw [hus] at h9
        exact h9)
      dsimp only at HUF
      rw [hus] at HUF
      have HUA : Hid (T.usedAt v k = (decide ((v : Int) ∈ us) || (decide (0 ≤ ex) && (T.exits.getD ex.toNat TX.dflt).names (v : Int)))) := Lib.hid (by
        unfold TR.usedAt TR.ext
        rw [← HX.out]
        dsimp only
        rw [hus])
      have HEXT := Lib.hid (HR.out.good.exit k (by rw [HN.out]; exact hlt))
      rw [← HX.out] at HEXT
      dsimp only at HEXT
      obtain ⟨d, hd⟩ : ∃ d, decide ((v : Int) ∈ us) = d := ⟨_, rfl⟩
      rw [hd] at HUA
      have HD := Lib.hid hd
      clear hus hd hbi hw2 hblk hK2 z0 z1 z2 z3 z4 z5 z6 z7 z8 z9 z10 z11 z12 z13 HFT HB1 HB2
      have n0 := (blk_cell HN2.out 0).trans rfl
      go_upto_region 6 with (fail)
      clear n0
      go_cut [8] from 15 (fun t8 wx => ∃ bb : Nat, t8 = .pointer (some ⟨bb, 0, none⟩) ∧ Hid (Keep (fun _ => False) w2 wx ∧ w2.heap.size ≤ bb ∧ wx.heap[bb]? = some (.cells #[.bool d] 4 (0, 0))))
      case first =>
        have HKR := Lib.hid (keep_draw (fun _ => False) w2)
        refine wp_region_drewU (S := (fun w' => Hid (w'.heap[bi]? = some (.cells #[.int .i64 op, .int .i64 a, .int .i64 b, .int .i64 c, .int .i64 nn, .slice A2 args.length ca2, .int .i64 kk, .int .i64 kn, .string (sb ks), .slice N2 names.length cn2, .int .i64 pf, .int .i64 pl, .int .i64 ex, .bool once] 60 (0, 0)) ∧ w'.heap[q + 1]? = some (.cells #[.int .i64 (v : Int)] 3 (0, 0))))) (D := [5]) (by kernel_rfl) (by exact Lib.hid ⟨HBI.out, HN2.out⟩) (fun hH => ?_)
        obtain ⟨wd, hwd⟩ : ∃ W : World, w2.drew = W := ⟨_, rfl⟩
        rw [hwd] at hH HKR ⊢
        clear hwd
        refine wpAnyU_take (i := 0) (v := ?_) rfl (by kernel_rfl) (by kernel_rfl) (by kernel_rfl) (by kernel_rfl) (fun _ _ _ h => h) (Or.inl ⟨by rfl, ?_⟩) hH ?_
        rotate_left
        · (intro w'' hSw; (have f0 := (blk_cell hSw.out.1 0).trans rfl; have f1 := (blk_cell hSw.out.1 1).trans rfl; have f2 := (blk_cell hSw.out.1 2).trans rfl; have f3 := (blk_cell hSw.out.1 3).trans rfl; have f4 := (blk_cell hSw.out.1 4).trans rfl; have f5 := (blk_cell hSw.out.1 5).trans rfl; have f6 := (blk_cell hSw.out.1 6).trans rfl; have f7 := (blk_cell hSw.out.1 7).trans rfl; have f8 := (blk_cell hSw.out.1 8).trans rfl; have f9 := (blk_cell hSw.out.1 9).trans rfl; have f10 := (blk_cell hSw.out.1 10).trans rfl; have f11 := (blk_cell hSw.out.1 11).trans rfl; have f12 := (blk_cell hSw.out.1 12).trans rfl; have f13 := (blk_cell hSw.out.1 13).trans rfl); go_simp; try with_reducible rfl)
        change wpAnyU _ _ _ _ _ _ _ _ (Act.put _ (some 21) _) _
        try simp only [Act.put, List.setIfInBounds_toArray, List.set_cons_zero, List.set_cons_succ]
        refine wpAnyU_take (i := 2) (v := ?_) rfl (by kernel_rfl) (by kernel_rfl) (by kernel_rfl) (by kernel_rfl) (fun _ _ _ h => h) (Or.inl ⟨by rfl, ?_⟩) hH ?_
        rotate_left
        · (intro w'' hSw; have f0 := (blk_cell hSw.out.2 0).trans rfl; go_simp; try with_reducible rfl)
        change wpAnyU _ _ _ _ _ _ _ _ (Act.put _ (some 23) _) _
        try simp only [Act.put, List.setIfInBounds_toArray, List.set_cons_zero, List.set_cons_succ]
        refine wpAnyU_ready (rs := [1, 4]) (by kernel_rfl) (by simp) ?_
        refine AllReadyU.cons rfl (fun Kn hKn => ?_) ?_
        · skip
          go_simp
          go_at_call 39
          (with_reducible refine (HGU.out _ HKR.out).mono ?_)
          rintro ee wv ⟨⟨Au, cu, rfl, hiu⟩, hk3⟩
          have HIU := Lib.hid hiu
          have HK3 := Lib.hid hk3
          clear hiu hk3
          refine hKn.out _ _ ?_ (fun hH => ?_)
          · (exact Lib.hid ⟨(HK3.out.block _ (blk_lt' hH.out.1) id).trans hH.out.1, (HK3.out.block _ (blk_lt' hH.out.2) id).trans hH.out.2⟩)
          clear hKn Kn
          try simp only [Act.put, List.setIfInBounds_toArray, List.set_cons_zero, List.set_cons_succ]
          replace HKR := Lib.hid (Keep.trans HKR.out HK3.out)
          clear HK3
          refine wpAnyU_ready (rs := [3, 4]) (by kernel_rfl) (by simp) ?_
          refine AllReadyU.cons rfl (fun Kn hKn => ?_) ?_
          · skip
            go_simp
            go_at_call 38
            (with_reducible refine (contains_any HIU.out (by have := HUF.out; omega) (v : Int)).mono ?_)
            rintro ee wy ⟨rfl, rfl⟩
            refine hKn.out _ _ ?_ (fun hH => ?_)
            · (exact hH)
            clear hKn Kn
            try simp only [Act.put, List.setIfInBounds_toArray, List.set_cons_zero, List.set_cons_succ]
            try rw [HD.out]
            refine wpAnyU_ready (rs := [4]) (by kernel_rfl) (by simp) ?_
            refine AllReadyU.cons rfl (fun Kn hKn => ?_) AllReadyU.nil
            go_simp
            refine hKn.out _ _ ?_ (fun hH => ?_)
            · (exact Lib.hid ⟨alloc_old' hH.out.1, alloc_old' hH.out.2⟩)
            clear hKn Kn
            try simp only [Act.put, List.setIfInBounds_toArray, List.set_cons_zero, List.set_cons_succ]
            have HBB := Lib.hid (heap_alloc_new wv (.cells #[.bool false] 4))
            have HBL := Lib.hid (show w2.heap.size ≤ wv.heap.size from HKR.out.size)
            replace HKR := Lib.hid (HKR.out.alloc' (.cells #[.bool false] 4))
            replace HIU := Lib.hid (show IntsAt _ _ _ _ from CellsAt.keep HIU.out ((Keep.refl (fun _ => False) wv).alloc' (.cells #[.bool false] 4)) (fun _ _ => id))
            obtain ⟨bb, hbb⟩ : ∃ bb, wv.heap.size = bb := ⟨_, rfl⟩
            obtain ⟨wb, hwb⟩ : ∃ W : World, wv.alloc (.cells #[.bool false] 4) = W := ⟨_, rfl⟩
            rw [hwb, hbb] at HBB
            rw [hbb] at HBL
            rw [hwb] at HKR hH
            rw [hwb] at HIU
            try rw [hwb]
            try rw [hbb]
            clear hbb hwb
            refine wpAnyU_ready (rs := [5]) (by kernel_rfl) (by simp) ?_
            refine AllReadyU.last rfl (by rfl) (fun Kn hKn => ?_) AllReadyU.nil
            go_simp
            have c0 := (blk_cell HBB.out 0).trans rfl
            have f0 := blk_free HBB.out 0
            go_simp
            clear c0 f0
            refine hKn.out _ _ ?_
            clear hKn Kn
            try simp only [Act.put, List.setIfInBounds_toArray, List.set_cons_zero, List.set_cons_succ]
            refine wpAnyU_done (by kernel_rfl) ?_ _
            go_wp2_with fail
            go_meet
            exact ⟨bb, rfl, Lib.hid ⟨keep_new HKR.out HBL.out (keep_set (Keep.refl (fun i => i = bb) _) 0 (.bool d)), HBL.out, (blk_set HBB.out 0 (.bool d)).trans (by rfl)⟩⟩
          refine AllReadyU.cons rfl (fun Kn hKn => ?_) ?_
          · skip
            go_simp
            refine hKn.out _ _ ?_ (fun hH => ?_)
            · (exact Lib.hid ⟨alloc_old' hH.out.1, alloc_old' hH.out.2⟩)
            clear hKn Kn
            try simp only [Act.put, List.setIfInBounds_toArray, List.set_cons_zero, List.set_cons_succ]
            have HBB := Lib.hid (heap_alloc_new wv (.cells #[.bool false] 4))
            have HBL := Lib.hid (show w2.heap.size ≤ wv.heap.size from HKR.out.size)
            replace HKR := Lib.hid (HKR.out.alloc' (.cells #[.bool false] 4))
            replace HIU := Lib.hid (show IntsAt _ _ _ _ from CellsAt.keep HIU.out ((Keep.refl (fun _ => False) wv).alloc' (.cells #[.bool false] 4)) (fun _ _ => id))
            obtain ⟨bb, hbb⟩ : ∃ bb, wv.heap.size = bb := ⟨_, rfl⟩
            obtain ⟨wb, hwb⟩ : ∃ W : World, wv.alloc (.cells #[.bool false] 4) = W := ⟨_, rfl⟩
            rw [hwb, hbb] at HBB
            rw [hbb] at HBL
            rw [hwb] at HKR hH
            rw [hwb] at HIU
            try rw [hwb]
            try rw [hbb]
            clear hbb hwb
            refine wpAnyU_ready (rs := [3]) (by kernel_rfl) (by simp) ?_
            refine AllReadyU.cons rfl (fun Kn hKn => ?_) AllReadyU.nil
            go_simp
            go_at_call 38
            (with_reducible refine (contains_any HIU.out (by have := HUF.out; omega) (v : Int)).mono ?_)
            rintro ee wy ⟨rfl, rfl⟩
            refine hKn.out _ _ ?_ (fun hH => ?_)
            · (exact hH)
            clear hKn Kn
            try simp only [Act.put, List.setIfInBounds_toArray, List.set_cons_zero, List.set_cons_succ]
            try rw [HD.out]
            refine wpAnyU_ready (rs := [5]) (by kernel_rfl) (by simp) ?_
            refine AllReadyU.last rfl (by rfl) (fun Kn hKn => ?_) AllReadyU.nil
            go_simp
            have c0 := (blk_cell HBB.out 0).trans rfl
            have f0 := blk_free HBB.out 0
            go_simp
            clear c0 f0
            refine hKn.out _ _ ?_
            clear hKn Kn
            try simp only [Act.put, List.setIfInBounds_toArray, List.set_cons_zero, List.set_cons_succ]
            refine wpAnyU_done (by kernel_rfl) ?_ _
            go_wp2_with fail
            go_meet
            exact ⟨bb, rfl, Lib.hid ⟨keep_new HKR.out HBL.out (keep_set (Keep.refl (fun i => i = bb) _) 0 (.bool d)), HBL.out, (blk_set HBB.out 0 (.bool d)).trans (by rfl)⟩⟩
          exact AllReadyU.nil
        refine AllReadyU.cons rfl (fun Kn hKn => ?_) ?_
        · skip
          go_simp
          refine hKn.out _ _ ?_ (fun hH => ?_)
          · (exact Lib.hid ⟨alloc_old' hH.out.1, alloc_old' hH.out.2⟩)
          clear hKn Kn
          try simp only [Act.put, List.setIfInBounds_toArray, List.set_cons_zero, List.set_cons_succ]
          have HBB := Lib.hid (heap_alloc_new wd (.cells #[.bool false] 4))
          have HBL := Lib.hid (show w2.heap.size ≤ wd.heap.size from HKR.out.size)
          replace HKR := Lib.hid (HKR.out.alloc' (.cells #[.bool false] 4))
          obtain ⟨bb, hbb⟩ : ∃ bb, wd.heap.size = bb := ⟨_, rfl⟩
          obtain ⟨wb, hwb⟩ : ∃ W : World, wd.alloc (.cells #[.bool false] 4) = W := ⟨_, rfl⟩
          rw [hwb, hbb] at HBB
          rw [hbb] at HBL
          rw [hwb] at HKR hH
          try rw [hwb]
          try rw [hbb]
          clear hbb hwb
          refine wpAnyU_ready (rs := [1]) (by kernel_rfl) (by simp) ?_
          refine AllReadyU.cons rfl (fun Kn hKn => ?_) AllReadyU.nil
          go_simp
          go_at_call 39
          (with_reducible refine (HGU.out _ HKR.out).mono ?_)
          rintro ee wv ⟨⟨Au, cu, rfl, hiu⟩, hk3⟩
          have HIU := Lib.hid hiu
          have HK3 := Lib.hid hk3
          clear hiu hk3
          replace HBB := Lib.hid ((HK3.out.block _ (blk_lt' HBB.out) id).trans HBB.out)
          refine hKn.out _ _ ?_ (fun hH => ?_)
          · (exact Lib.hid ⟨(HK3.out.block _ (blk_lt' hH.out.1) id).trans hH.out.1, (HK3.out.block _ (blk_lt' hH.out.2) id).trans hH.out.2⟩)
          clear hKn Kn
          try simp only [Act.put, List.setIfInBounds_toArray, List.set_cons_zero, List.set_cons_succ]
          replace HKR := Lib.hid (Keep.trans HKR.out HK3.out)
          clear HK3
          refine wpAnyU_ready (rs := [3]) (by kernel_rfl) (by simp) ?_
          refine AllReadyU.cons rfl (fun Kn hKn => ?_) AllReadyU.nil
          go_simp
          go_at_call 38
          (with_reducible refine (contains_any HIU.out (by have := HUF.out; omega) (v : Int)).mono ?_)
          rintro ee wy ⟨rfl, rfl⟩
          refine hKn.out _ _ ?_ (fun hH => ?_)
          · (exact hH)
          clear hKn Kn
          try simp only [Act.put, List.setIfInBounds_toArray, List.set_cons_zero, List.set_cons_succ]
          try rw [HD.out]
          refine wpAnyU_ready (rs := [5]) (by kernel_rfl) (by simp) ?_
          refine AllReadyU.last rfl (by rfl) (fun Kn hKn => ?_) AllReadyU.nil
          go_simp
          have c0 := (blk_cell HBB.out 0).trans rfl
          have f0 := blk_free HBB.out 0
          go_simp
          clear c0 f0
          refine hKn.out _ _ ?_
          clear hKn Kn
          try simp only [Act.put, List.setIfInBounds_toArray, List.set_cons_zero, List.set_cons_succ]
          refine wpAnyU_done (by kernel_rfl) ?_ _
          go_wp2_with fail
          go_meet
          exact ⟨bb, rfl, Lib.hid ⟨keep_new HKR.out HBL.out (keep_set (Keep.refl (fun i => i = bb) _) 0 (.bool d)), HBL.out, (blk_set HBB.out 0 (.bool d)).trans (by rfl)⟩⟩
        exact AllReadyU.nil
      case rest =>
        obtain ⟨bb, rfl, HC⟩ := hcut
        have HU3 := Lib.hid (HU2.out.quiet HC.out.1)
        have y0 := (HC.out.1.block bi (blk_lt' HBI.out) id).trans HBI.out
        have y1 := (HC.out.1.block q (blk_lt' HTR2.out) id).trans HTR2.out
        have y12 := (blk_cell y0 12).trans rfl
        have y3 := (blk_cell y1 3).trans rfl
        have b0 := (blk_cell HC.out.2.2 0).trans rfl
        have HTc := Lib.hid (HT.out.since HU3.out.since)
        clear y0 y1
        by_cases hex : ex < 0
        · have hxd : decide (0 ≤ ex) = false := by simp; omega
          have HUW := Lib.hid HU3.out
          cases d with
          | true =>
            have HUV := Lib.hid (show T.usedAt v k = true from by rw [HUA.out, hxd]; rfl)
            have HE := Lib.hid (show T.usesTo v (k + 1) = T.usesTo v k ++ [k] from by rw [usesTo_succ, HUV.out]; rfl)
            have HVO := Lib.hid (show wc.ownsRow w1.heap.size 3 1 (.slice RR L cc) L (ints (nats (T.usesTo v k))) from by have h9 := HUW.out.own; rw [HL.out] at h9; exact h9)
            go_wp2_with (at_builtin; refine wpList_append_src 22 3 _ 8 w1.heap.size Tryd.ints1 _ _ rfl rfl _ L (ints (nats (T.usesTo v k))) rfl (by exact HVO.out.alloc _) _ 1 1 (ints [(k : Int)]) rfl (by intro h; cases h) (by exact cells_new _ _ _) (ints_one _) (by omega) (by decide) (by have := HUW.out.since.size; simp only [World.size_alloc]; omega) ?_)
            intro v' w5 hown hgr hnil hblk
            obtain ⟨R', c', rfl⟩ := own_slice hown
            have HLN := Lib.hid (show (T.usesTo v (k + 1)).length = L + 1 by rw [HE.out, List.length_append, HL.out]; rfl)
            have HY := Lib.hid (show UL w1 T v (k + 1) R' c' (Ds) w5 from by
              have hk9 : Keep (fun i => (Value.slice RR L cc).ownBlock = some i) wc w5 := Keep.trans (Keep.mono ((Keep.refl (fun _ => False) wc).alloc' _) (fun _ => False.elim)) (own_keep' hgr)
              refine ⟨?_, Keep.trans HUW.out.since (Keep.mono hk9 (fun i e => own_low HVO.out e)), HUW.out.nodup, fun D hD => ⟨(HUW.out.marks D hD).1, (hk9.block D (blk_lt' (HUW.out.marks D hD).2) (mark_ne (HUW.out.marks D hD).2 HVO.out)).trans (HUW.out.marks D hD).2⟩⟩
              rw [HE.out, List.length_append, HL.out]
              unfold nats at hown ⊢
              rw [List.map_append, ints_append]
              exact hown)
            clear hown hgr hnil hblk
            go_wp2_with fail
            refine ⟨?_, by simp [RowKit.intOf]; omega⟩
            rw [← HIV.out]
            repeat apply Exists.intro
            refine ⟨?_, rfl⟩
            exact ⟨k + 1, by omega, by go_num, R', c', by rw [HLN.out], Ds, rfl, HY⟩
          | false =>
            have HUV := Lib.hid (show T.usedAt v k = false from by rw [HUA.out, hxd]; rfl)
            have HE := Lib.hid (show T.usesTo v (k + 1) = T.usesTo v k from by rw [usesTo_succ, HUV.out]; simp)
            go_wp2_with fail
            refine ⟨?_, by simp [RowKit.intOf]; omega⟩
            rw [← HIV.out]
            repeat apply Exists.intro
            refine ⟨?_, rfl⟩
            exact ⟨k + 1, by omega, by go_num, RR, cc, by rw [HE.out, HL.out], Ds, rfl, Lib.hid ⟨by rw [HE.out]; exact HUW.out.own, HUW.out.since, HUW.out.nodup, HUW.out.marks⟩⟩
        · have hxd : decide (0 ≤ ex) = true := by simp; omega
          obtain ⟨hxM, hxo⟩ := HEXT.out (by omega)
          obtain ⟨nx, rfl⟩ : ∃ nx : Nat, ex = (nx : Int) := ⟨ex.toNat, by omega⟩
          rw [HMM.out] at hxM
          have HXM := Lib.hid hxM
          obtain ⟨gx, rfl, hxx, hxm, hxc⟩ := HTc.out.cellsX (k := nx) (by rw [HMM.out]; omega)
          obtain ⟨rx, hrx⟩ : ∃ rx, X.getD nx RX.dflt = rx := ⟨_, rfl⟩
          rw [hrx] at hxx hxm hxc
          have HXF := Lib.hid (HTc.out.fitX _ hxm)
          obtain ⟨xx, AF, cF, FF⟩ := rx
          dsimp only at hxx
          have HOK : Hid (ExOK T k xx) := Lib.hid (by
            have h9 := hxo
            unfold TR.ext at h9
            rw [← HX.out] at h9
            rw [hxx]
            exact h9)
          have HXX := Lib.hid hxx
          have c0 : wc.cell? ⟨gx, nx * 3, none⟩ = some (.slice AF FF.length cF) := (hxc 0 (by omega)).trans rfl
          have c1 : wc.cell? ⟨gx, nx * 3 + 1, none⟩ = some (.slice none 0 0) := (hxc 1 (by omega)).trans rfl
          have c2 : wc.cell? ⟨gx, nx * 3 + 2, none⟩ = some (.int .i64 xx.back) := (hxc 2 (by omega)).trans rfl
          have HFL := Lib.hid (show FF.length ≤ 1000 from by
            have h9 := HXF.out.2.2
            have h8 := congrArg List.length h9
            rw [List.length_map] at h8
            dsimp only at h8
            have := HOK.out.many
            omega)
          have HVL := Lib.hid (show ∀ f ∈ FF, f.x.vars.length ≤ 1000000 from fun f hf => by
            have h9 := HOK.out.each f.x (by have h8 := HXF.out.2.2; dsimp only at h8; rw [← h8]; exact List.mem_map_of_mem hf)
            omega)
          have HXV := Lib.hid (show (T.exits.getD ((nx : Int)).toNat TX.dflt).names (v : Int) = decide ((v : Int) ∈ xx.rows.flatten) from by
            rw [← names_rows, HXX.out]
            rfl)
          obtain ⟨LF, hLF⟩ : ∃ n, FF.length = n := ⟨_, rfl⟩
          obtain ⟨bk, hbk⟩ : ∃ n, xx.back = n := ⟨_, rfl⟩
          have HLF := Lib.hid hLF
          have HBK := Lib.hid hbk
          rw [hLF] at c0
          rw [hbk] at c2
          have HMT : Hid (∀ W, Calls Tryd.prog 40 #[.agg #[.slice AF LF cF, .slice none 0 0, .int .i64 bk]] W fun e w' => e = .returned (.func (.func 60) #[] #[.pointer (some ⟨W.heap.size, 0, none⟩)]) ∧ w' = W.alloc (.cells #[.slice AF LF cF, .slice none 0 0, .int .i64 bk] 83)) := Lib.hid (fun W => by
            have h9 := mentioned_any ⟨xx, AF, cF, FF⟩ W
            unfold RX.cells at h9
            dsimp only at h9
            rw [hLF, hbk] at h9
            exact h9)
          clear hLF hbk hxc hxm hrx hxx hxo
          go_wp2_with fail
          ((with_reducible refine (HMT.out _).mono ?_); rintro ee w' ⟨rfl, rfl⟩)
          have HBX := Lib.hid (alloc_old' (o' := .cells #[.slice AF LF cF, .slice none 0 0, .int .i64 bk] 83) (heap_alloc_new wc (.cells #[.slice AF LF cF, .slice none 0 0, .int .i64 bk] 83)))
          have HBM := Lib.hid (heap_alloc_new (wc.alloc (.cells #[.slice AF LF cF, .slice none 0 0, .int .i64 bk] 83)) (.cells #[.slice AF LF cF, .slice none 0 0, .int .i64 bk] 83))
          have HKM := Lib.hid (((Keep.refl (fun _ => False) wc).alloc' (.cells #[.slice AF LF cF, .slice none 0 0, .int .i64 bk] 83)).alloc' (.cells #[.slice AF LF cF, .slice none 0 0, .int .i64 bk] 83))
          have HSM := Lib.hid (show ((wc.alloc (.cells #[.slice AF LF cF, .slice none 0 0, .int .i64 bk] 83)).alloc (.cells #[.slice AF LF cF, .slice none 0 0, .int .i64 bk] 83)).heap.size = wc.heap.size + 2 by simp)
          simp only [World.size_alloc] at HBM
          obtain ⟨wm, hwm⟩ : ∃ wm : World, (wc.alloc (.cells #[.slice AF LF cF, .slice none 0 0, .int .i64 bk] 83)).alloc (.cells #[.slice AF LF cF, .slice none 0 0, .int .i64 bk] 83) = wm := ⟨_, rfl⟩
          rw [hwm] at HBX HBM HKM HSM
          simp only [World.size_alloc]
          rw [hwm]
          obtain ⟨bx, hbx⟩ : ∃ b, wc.heap.size = b := ⟨_, rfl⟩
          rw [hbx] at HBX HBM HSM
          rw [hbx]
          have HBXW := Lib.hid hbx
          clear hwm hbx c0 c1 c2 y12 y3 b0
          have HBBm := Lib.hid ((HKM.out.block bb (blk_lt' HC.out.2.2) id).trans HC.out.2.2)
          have HBLm := Lib.hid (show bb < bx from by have := blk_lt' HC.out.2.2; rw [HBXW.out] at this; exact this)
          have HFM := Lib.hid (HXF.out.keep HKM.out (fun _ _ _ => id) (fun _ _ _ => id))
          have HUM := Lib.hid (HU3.out.quiet HKM.out)
          have HNm := Lib.hid ((HKM.out.block (q + 1) (Nat.lt_of_lt_of_le (blk_lt' HN2.out) HC.out.1.size) id).trans ((HC.out.1.block (q + 1) (blk_lt' HN2.out) id).trans HN2.out))
          go_wp2_with fail
          refine (wpIn_wide (n := 6)).1 ?_
          have hst := ment_stops (6 - 1) (by omega) (bx + 1) bb ⟨xx, AF, cF, FF⟩ HFM.out HFL.out HVL.out (by unfold RX.cells; dsimp only; rw [HLF.out, HBK.out]; exact HBM.out) (by have := HBLm.out; omega) (fun cur => by rw [HBBm.out]; constructor <;> (intro h; injection h with h; injection h with _ h; revert h; decide)) (fun _ => True) (fun _ _ => trivial)
          refine' wpIn_rangeFunc_ownF rfl (by omega) (gf := 60) (lb := #[.pointer (some ⟨bx + 1, 0, none⟩)]) rfl trivial (enters_of Tryd.func60 (by kernel_rfl) rfl)
            hst (fun h k => Keep.trans h k) (fun W1 l o o' hl hh _ _ => (Keep.refl _ W1).grown (grownBy_putObj' W1 l o') (fun k e => .inl (by cases e; exact .inr hl))) (Below.refl _ _) (fun _ => rfl)
            (fun pre W1 => Keep (FB8 wm bb) wm W1 ∧ W1.heap[bb]? = some (.cells #[.bool (d || anyV v pre)] 4 (0, 0))) (fun _ _ _ => False) (fun _ W1 W2 row hs hg hr => ⟨Keep.trans hs.1 ((Keep.refl _ W1).grown hg (fun k e => .inl (.inr (hr k e).1))), (((Keep.refl (fun i => row = some i) W1).grown hg (fun k e => .inl e)).block bb (blk_lt' hs.2) (fun e => by have := (hr _ e).1; have := HBLm.out; have := HSM.out; omega)).trans hs.2⟩) (fun _ _ _ _ _ hs _ _ => hs) ⟨Keep.refl _ _, by rw [show (d || anyV v []) = d from Bool.or_false d]; exact HBBm.out⟩ _ ?assign ?body ?done ?stop
          case assign =>
            intro l x W1 K hK
            gi_wp2
            exact hK
          case body =>
            rintro l pre ⟨x, hx⟩ W1 ⟨hI, hb⟩ _
            dsimp only
            have hn1 := (hI.block (q + 1) (blk_lt' HNm.out) (fun e => Or.elim e (fun e => (obj_ne HNm.out HBBm.out (by decide)) e) (fun e => by have h1 := blk_lt' HNm.out; omega))).trans HNm.out
            have n0 := (blk_cell hn1 0).trans rfl
            have hany : (d || anyV v (pre ++ [(⟨x, hx⟩ : {x : Int // True})])) = ((d || anyV v pre) || (x == (v : Int))) := by rw [anyV_snoc, Bool.or_assoc]
            obtain ⟨bv, hbv⟩ : ∃ bv, (d || anyV v pre) = bv := ⟨_, rfl⟩
            rw [hbv] at hb hany
            have c0 := (blk_cell hb 0).trans rfl
            have f0 := blk_free hb 0
            have HAN := Lib.hid hany
            have HII := Lib.hid hI
            have HBV := Lib.hid hb
            clear hany hbv hI hb hn1
            cases bv with
            | true =>
              gi_wp2
              exact ⟨KeepsOthers.setCell _ _ _, keep_setF (F := FB8 wm bb) W1 (.inl rfl) 0 _, Keep.trans HII.out (keep_setF (F := FB8 wm bb) W1 (.inl rfl) 0 _), by rw [HAN.out]; exact blk_set HBV.out 0 _⟩
            | false =>
              gi_wp2
              exact ⟨KeepsOthers.setCell _ _ _, keep_setF (F := FB8 wm bb) W1 (.inl rfl) 0 _, Keep.trans HII.out (keep_setF (F := FB8 wm bb) W1 (.inl rfl) 0 _), by rw [HAN.out]; exact blk_set HBV.out 0 _⟩
          case done =>
            rintro D ys W1 hD hys ⟨hI, hb⟩ hK
            have hvv : (d || anyV v ys) = T.usedAt v k := by
              rw [any_rows hys, HUA.out, hxd, HXV.out]
              rfl
            rw [hvv] at hb
            obtain ⟨bv, hbv⟩ : ∃ bv, T.usedAt v k = bv := ⟨_, rfl⟩
            rw [hbv] at hb
            have HUV := Lib.hid hbv
            have hx1 := (hI.block bx (by have := HSM.out; omega) (by have := HSM.out; have := HBLm.out; rintro (e | e) <;> omega)).trans HBX.out
            have x0 := (blk_cell hx1 1).trans rfl
            have c0 := (blk_cell hb 0).trans rfl
            have f0 := blk_free hb 0
            have HUW := Lib.hid (show UL w1 T v k RR cc (D :: Ds) (W1.setCell ⟨bb, 0, none⟩ (.bool bv)) from by
              have hF : Keep (FB8 wm bb) wm (W1.setCell ⟨bb, 0, none⟩ (.bool bv)) := Keep.trans hI (keep_setF (F := FB8 wm bb) W1 (.inl rfl) 0 _)
              have ht := HUM.out.turn hF (fun i e => by have h1 := HUM.out.since.size; have h2 := HC.out.2.1; have h3 := HU2.out.since.size; rcases e with e | e <;> omega) (fun i e => by
                obtain ⟨h1, cur, h2⟩ := HUM.out.own_lt e
                rintro (e | e)
                · subst e; rw [HBBm.out] at h2; injection h2 with h2; injection h2 with _ h2; revert h2; decide
                · omega) (fun D' hD' => by
                have h1 := (HUM.out.marks D' hD').2
                rintro (e | e)
                · subst e; rw [HBBm.out] at h1; cases h1
                · have := blk_lt' h1; omega)
              have hDb : D ≠ bb := by have := HBLm.out; have := HSM.out; omega
              refine ⟨ht.own, ht.since, List.nodup_cons.2 ⟨fun hm => by have := blk_lt' (HUM.out.marks D hm).2; omega, ht.nodup⟩, fun D' hD' => ?_⟩
              rcases List.mem_cons.1 hD' with rfl | hD'
              · exact ⟨Nat.le_trans HUM.out.since.size hD, ((keep_set (Keep.refl (fun i => i = bb) W1) 0 (.bool bv)).block D' (blk_lt' hK) hDb).trans hK⟩
              · exact ht.marks D' hD')
            have HBV := Lib.hid (blk_set hb 0 (.bool bv))
            have HCF := Lib.hid (fun f W => cfun_none none 0 f W)
            clear hI hb hK hvv hbv hx1 hys
            cases bv with
            | true =>
              go_upto_region 13 with (fail)
              obtain ⟨wz, hwz⟩ : ∃ W : World, W1.setCell ⟨bb, 0, none⟩ (.bool true) = W := ⟨_, rfl⟩
              rw [hwz] at HBV HUW ⊢
              clear hwz
              have e0 := (blk_cell HBV.out 0).trans rfl
              have HE := Lib.hid (show T.usesTo v (k + 1) = T.usesTo v k ++ [k] from by rw [usesTo_succ, HUV.out]; rfl)
              have HVO := Lib.hid (show wz.ownsRow w1.heap.size 3 1 (.slice RR L cc) L (ints (nats (T.usesTo v k))) from by have h9 := HUW.out.own; rw [HL.out] at h9; exact h9)
              go_wp2_with (at_builtin; refine wpList_append_src 22 3 _ 8 w1.heap.size Tryd.ints1 _ _ rfl rfl _ L (ints (nats (T.usesTo v k))) rfl (by exact HVO.out.alloc _) _ 1 1 (ints [(k : Int)]) rfl (by intro h; cases h) (by exact cells_new _ _ _) (ints_one _) (by omega) (by decide) (by have := HUW.out.since.size; simp only [World.size_alloc]; omega) ?_)
              intro v' w5 hown hgr hnil hblk
              obtain ⟨R', c', rfl⟩ := own_slice hown
              have HLN := Lib.hid (show (T.usesTo v (k + 1)).length = L + 1 by rw [HE.out, List.length_append, HL.out]; rfl)
              have HY := Lib.hid (show UL w1 T v (k + 1) R' c' (D :: Ds) w5 from by
                have hk9 : Keep (fun i => (Value.slice RR L cc).ownBlock = some i) wz w5 := Keep.trans (Keep.mono ((Keep.refl (fun _ => False) wz).alloc' _) (fun _ => False.elim)) (own_keep' hgr)
                refine ⟨?_, Keep.trans HUW.out.since (Keep.mono hk9 (fun i e => own_low HVO.out e)), HUW.out.nodup, fun D hD => ⟨(HUW.out.marks D hD).1, (hk9.block D (blk_lt' (HUW.out.marks D hD).2) (mark_ne (HUW.out.marks D hD).2 HVO.out)).trans (HUW.out.marks D hD).2⟩⟩
                rw [HE.out, List.length_append, HL.out]
                unfold nats at hown ⊢
                rw [List.map_append, ints_append]
                exact hown)
              clear hown hgr hnil hblk
              go_wp2_with fail
              refine ⟨?_, by simp [RowKit.intOf]; omega⟩
              rw [← HIV.out]
              repeat apply Exists.intro
              refine ⟨?_, rfl⟩
              exact ⟨k + 1, by omega, by go_num, R', c', by rw [HLN.out], D :: Ds, rfl, HY⟩
            | false =>
              have e0 := (blk_cell HBV.out 0).trans rfl
              go_wp2_with fail
              ((with_reducible refine (HCF.out _ _).mono ?_); rintro ee w' ⟨rfl, rfl⟩)
              have HE := Lib.hid (show T.usesTo v (k + 1) = T.usesTo v k from by rw [usesTo_succ, HUV.out]; simp)
              go_wp2_with fail
              refine ⟨?_, by simp [RowKit.intOf]; omega⟩
              rw [← HIV.out]
              repeat apply Exists.intro
              refine ⟨?_, rfl⟩
              exact ⟨k + 1, by omega, by go_num, RR, cc, by rw [HE.out, HL.out], D :: Ds, rfl, Lib.hid ⟨by rw [HE.out]; exact HUW.out.own, HUW.out.since, HUW.out.nodup, HUW.out.marks⟩⟩
          case stop =>
            rintro D c pre W _ _ h _
            exact h.elim
    · have hb1 : decide (k < N) = false := by simpa using hlt
      obtain rfl : k = N := by omega
      clear n0
      go_wp2_with fail
      show Q _ _ _
      rw [← HQ.out]
      refine leaves_marks (F := Fence.wide) (n := 6) (P := Tryd.prog) (u := .returning) (by simp) (B := w1.heap.size)
        (fun W => W.ownsRow w1.heap.size 3 1 (.slice RR (T.usesTo v k).length cc) (T.usesTo v k).length (ints (nats (T.usesTo v k))) ∧ Since w1.heap.size w1 W) (fun W hW => ⟨_, results_tmp rfl _ _ _, ⟨RR, cc, ?_, ?_⟩, ?_⟩) (fun W D hW hD hB => ⟨ownsRow_putObj hW.1 _ hD rfl, Keep.trans hW.2 ((Keep.refl _ W).grown (grownBy_putObj' W D _) (fun i e => .inl (by cases e; exact hB)))⟩) Ds wo HU.out.nodup HU.out.marks ⟨HU.out.own, HU.out.since⟩
      · rw [HL.out]; rfl
      · have h9 := (Lies.own hW.1 (by decide) (by rw [HL.out]; omega)).1
        rw [Nat.mul_one] at h9
        exact h9
      · exact Keep.trans (Since.of HK.out) (Since.mono hW.2 HK.out.size)
end
end Go.Proofs.YtnbpgipbfejllaaDoor
