/- Install: a store's text, and the reference's Text. -/
import Derived.Test.YtnhajhejkecihaaDoorME
namespace Go.Proofs.YtnhajhejkecihaaDoor
open Go.RowKit Go.Lib
set_option linter.unusedVariables false
set_option linter.unusedSimpArgs false

def owesTxt (o : List Bool) : Nat → Bytes
  | 0 => []
  | j + 1 => owesTxt o j ++ (if o.getD j false then [32] ++ itoa (j : Int) else [])
def dNum (d : Bool) : Int := if d then 1 else 0
def headTxt (e : ME) : Bytes := itoa (e.id : Int) ++ [32] ++ itoa ((16 * e.a : Nat) : Int) ++ [32] ++ itoa (e.bytes.length : Int) ++ [32] ++ itoa (dNum e.dropped)
def entTxt (e : ME) : Bytes := headTxt e ++ owesTxt e.owed e.owed.length ++ [10]
def entsTxt : List ME → Bytes
  | [] => []
  | e :: l => entTxt e ++ entsTxt l
def innTxt (l : List Int) : Nat → Bytes
  | 0 => []
  | j + 1 => innTxt l j ++ ([32] ++ itoa (l.getD j 0))
def textOf (all : List ME) (inn : List Int) : Bytes := entsTxt all ++ [105, 110] ++ innTxt inn inn.length ++ [10]
theorem owesTxt_succ (o : List Bool) (j : Nat) : owesTxt o (j + 1) = owesTxt o j ++ (if o.getD j false then [32] ++ itoa (j : Int) else []) := rfl
theorem innTxt_succ (l : List Int) (j : Nat) : innTxt l (j + 1) = innTxt l j ++ ([32] ++ itoa (l.getD j 0)) := rfl
theorem entsTxt_append : ∀ l m : List ME, entsTxt (l ++ m) = entsTxt l ++ entsTxt m
  | [], m => rfl
  | e :: l, m => by rw [List.cons_append, entsTxt, entsTxt, entsTxt_append l m, List.append_assoc]
theorem entsTxt_one (e : ME) : entsTxt [e] = entTxt e := by rw [entsTxt, entsTxt, List.append_nil]
theorem itoa_len (n : Int) (h : -1000000000 ≤ n ∧ n ≤ 1000000000) : (itoa n).length ≤ 21 := itoa_length_le _ (by omega) (by omega)
theorem owesTxt_len (o : List Bool) : ∀ j, j ≤ 1000 → (owesTxt o j).length ≤ 22 * j
  | 0, _ => by simp [owesTxt]
  | j + 1, h => by
    have ih := owesTxt_len o j (by omega)
    have := itoa_len (j : Int) (by omega)
    unfold owesTxt
    rw [List.length_append]
    split
    · rw [List.length_append]; simp; omega
    · simp; omega
theorem innTxt_len {l : List Int} (hl : ∀ v ∈ l, -1 ≤ v ∧ v ≤ 1000000) : ∀ j, j ≤ l.length → (innTxt l j).length ≤ 22 * j
  | 0, _ => by simp [innTxt]
  | j + 1, h => by
    have ih := innTxt_len hl j (by omega)
    have hv := hl _ (getD_mem (x := 0) (show j < l.length by omega))
    have := itoa_len (l.getD j 0) (by omega)
    unfold innTxt
    rw [List.length_append, List.length_append]
    simp only [List.length_cons, List.length_nil]
    omega
theorem headTxt_len {e : ME} (h1 : e.id ≤ 1000000) (h2 : e.stop ≤ 256) : (headTxt e).length ≤ 87 := by
  unfold ME.stop lns at h2
  have a1 := itoa_len (e.id : Int) (by omega)
  have a2 := itoa_len ((16 * e.a : Nat) : Int) (by omega)
  have a3 := itoa_len (e.bytes.length : Int) (by omega)
  have a4 := itoa_len (dNum e.dropped) (by unfold dNum; split <;> omega)
  unfold headTxt
  simp only [List.length_append, List.length_cons, List.length_nil]
  omega
theorem entTxt_len {e : ME} (h1 : e.id ≤ 1000000) (h2 : e.stop ≤ 256) (h3 : e.owed.length ≤ 4) : (entTxt e).length ≤ 176 := by
  have a1 := headTxt_len h1 h2
  have a2 := owesTxt_len e.owed e.owed.length (by omega)
  unfold entTxt
  simp only [List.length_append, List.length_cons, List.length_nil]
  omega
theorem entsTxt_len : ∀ {l : List ME}, (∀ e ∈ l, e.id ≤ 1000000 ∧ e.stop ≤ 256 ∧ e.owed.length ≤ 4) → (entsTxt l).length ≤ 176 * l.length
  | [], _ => by simp [entsTxt]
  | e :: l, h => by
    have ih := entsTxt_len (l := l) (fun x hx => h x (List.mem_cons_of_mem _ hx))
    obtain ⟨a1, a2, a3⟩ := h e List.mem_cons_self
    have := entTxt_len a1 a2 a3
    rw [entsTxt, List.length_append, List.length_cons]
    omega
def RS.txtTo (ρ : RS) (k : Nat) : Bytes := entsTxt ((ρ.L.take k).filter fun e => !e.gone)
theorem RS.txtTo_succ (ρ : RS) {k : Nat} (hk : k < ρ.L.length) : ρ.txtTo (k + 1) = ρ.txtTo k ++ if (ρ.at_ k).gone then [] else entTxt (ρ.at_ k) := by
  have e : ρ.L[k] = ρ.at_ k := by unfold RS.at_; rw [List.getD_eq_getElem?_getD, List.getElem?_eq_getElem hk]; rfl
  unfold RS.txtTo
  rw [List.take_succ_eq_append_getElem hk, List.filter_append, entsTxt_append, e]
  congr 1
  cases h : (ρ.at_ k).gone with
  | true => simp [List.filter_cons, h, entsTxt]
  | false => simp [List.filter_cons, h, entsTxt_one]
theorem RS.Ok.ent {ρ : RS} (h : ρ.Ok) : ∀ e ∈ ρ.L, e.id ≤ 1000000 ∧ e.stop ≤ 256 ∧ e.owed.length ≤ 4 := fun e he => by
  obtain ⟨i, hi, rfl⟩ := List.getElem_of_mem he
  have e : ρ.at_ i = ρ.L[i] := by unfold RS.at_; rw [List.getD_eq_getElem?_getD, List.getElem?_eq_getElem hi]; rfl
  have h1 := h.ids i hi
  rw [e] at h1
  have := h.len
  have h2 := h.owed _ he
  have := h.cpus
  exact ⟨by omega, (h.size _ he).2, by omega⟩
theorem RS.Ok.txt_len {ρ : RS} (h : ρ.Ok) (k : Nat) : (ρ.txtTo k).length ≤ 176 * ρ.L.length := by
  have h1 := entsTxt_len (l := (ρ.L.take k).filter fun e => !e.gone) (fun e he => h.ent e (List.mem_of_mem_take (List.mem_filter.1 he).1))
  have h2 : ((ρ.L.take k).filter fun e => !e.gone).length ≤ ρ.L.length := by
    have := List.length_filter_le (fun e : ME => !e.gone) (ρ.L.take k)
    rw [List.length_take] at this
    omega
  unfold RS.txtTo
  have := Nat.mul_le_mul_left 176 h2
  omega
set_option maxRecDepth 100000 in
set_option maxHeartbeats 16000000 in
theorem rtext_any {n : Nat} {w : World} {q : Nat} {u : RR} {ρ : RS} (h : IsRef n w q u ρ) (hl : ρ.L.length ≤ 1000) :
    Calls Tryd.prog 26 #[.pointer (some ⟨q, 0, none⟩)] w fun e w' => e = .returned (.string (sb (textOf ρ.abs.all ρ.inn))) ∧ Keep (fun _ => False) w w' := by
  have hfin : textOf ρ.abs.all ρ.inn = ρ.txtTo ρ.L.length ++ [105, 110] ++ innTxt ρ.inn ρ.inn.length ++ [10] := by unfold RS.txtTo; rw [List.take_length]; rfl
  rw [hfin]
  obtain ⟨N, hN⟩ : ∃ N, ρ.L.length = N := ⟨_, rfl⟩
  obtain ⟨M, hM⟩ : ∃ M, ρ.inn.length = M := ⟨_, rfl⟩
  have hcp := h.ok.cpus
  rw [hN] at hl ⊢
  rw [hM] at hcp ⊢
  obtain ⟨R, hR⟩ : ∃ R, sb (ρ.txtTo N ++ [105, 110] ++ innTxt ρ.inn M ++ [10]) = R := ⟨_, rfl⟩
  rw [hR]
  have HR := Lib.hid hR
  have HN := Lib.hid hN
  have HM := Lib.hid hM
  have H := Lib.hid h
  have V0 := Lib.hid (show ρ.txtTo 0 = [] ∧ Keep (fun _ => False) w w from ⟨rfl, Keep.refl _ _⟩)
  have HTL := Lib.hid (fun k => h.ok.txt_len k)
  have HAS := Lib.hid (fun (x y : Bytes) (W : World) (h : x.length + y.length ≤ 1000000) => addS x y W h)
  have e0 : (⟨#[]⟩ : ByteArray) = sb [] := rfl
  clear h hN hM hR hfin
  go_enter Tryd.func26, Tryd.ntmps26
  go_wp2_with fail
  go_loopw [3, 4] (fun s i wr => ∃ (k : Nat) (t : Bytes), k ≤ N ∧ i = .int .i64 (k : Int) ∧ s = .string (sb t) ∧ Hid (ρ.txtTo k = t) ∧ Hid (Keep (fun _ => False) w wr)) (fun _ i _ => N + 1 - (RowKit.intOf i).toNat)
  case atStart => exact ⟨0, [], Nat.zero_le _, rfl, rfl, Lib.hid rfl, Lib.hid (Keep.refl _ _)⟩
  case round =>
    obtain ⟨k, t, hk, rfl, rfl, HT, VV⟩ := hrel
    obtain ⟨wo, rfl⟩ : ∃ wo : World, wo = wr := ⟨_, rfl⟩
    clear V0 e0
    have c0 := (H.out.quiet VV.out).c0
    rw [HN.out] at c0
    by_cases hlt : k < N
    · have hb : decide (k < N) = true := by simpa using hlt
      have hkl : k < ρ.L.length := by rw [HN.out]; exact hlt
      obtain ⟨g, hA, _, _⟩ := (H.out.quiet VV.out).rows (by omega)
      have hrg := (H.out.quiet VV.out).range hkl hA
      have hfit := (H.out.quiet VV.out).fits k hkl
      have hsz := H.out.ok.size _ (RS.at_mem hkl)
      have hid := H.out.ok.ids k hkl
      have hol := H.out.ok.owed _ (RS.at_mem hkl)
      rw [HM.out] at hol
      have hsc := ρ.txtTo_succ hkl
      rw [HT.out] at hsc
      obtain ⟨o, oc, hv, _, hoc⟩ := hfit.owes (by omega)
      rw [hol] at hv hoc
      obtain ⟨e, he⟩ : ∃ e, ρ.at_ k = e := ⟨_, rfl⟩
      obtain ⟨rc, hrc⟩ : ∃ rc, (u.R.getD k RE.dflt).cells.toArray = rc := ⟨_, rfl⟩
      have hone := hfit.one
      rw [hrc] at hone
      have hs13 : rc.size = 13 := by rw [← hrc]; rfl
      have hr2 : rc[2]? = some (.string (sb e.bytes)) := by rw [← hrc, ← he, ← hfit.b]; rfl
      have hr9 : rc[9]? = some (.int .i64 ((16 * e.a : Nat) : Int)) := by rw [← hrc, ← he, ← hfit.a]; rfl
      have hr10 : rc[10]? = some (.bool e.dropped) := by rw [← hrc, ← he, ← hfit.d]; rfl
      have hr11 : rc[11]? = some (.bool e.gone) := by rw [← hrc, ← he, ← hfit.g]; rfl
      have hr12 : rc[12]? = some (.slice (some ⟨o, 0, none⟩) M oc) := by rw [← hrc, ← hv]; rfl
      rw [he] at hsz hsc hid hol hoc
      have RG := Lib.hid hrg
      have RC := Lib.hid hrc
      have R1 := Lib.hid hone
      have R13 := Lib.hid hs13
      rw [hA] at c0
      have hcb := copied (w := wo) 76 z13 rc
      have hkb := copied_keep (w := wo) 76 z13 rc
      have q10 : ((wo.alloc (.cells z13 76)).setRow wo.heap.size rc).cell? ⟨wo.heap.size, 10, none⟩ = some (.bool e.dropped) := (blk_cell hcb 10).trans hr10
      have q11 : ((wo.alloc (.cells z13 76)).setRow wo.heap.size rc).cell? ⟨wo.heap.size, 11, none⟩ = some (.bool e.gone) := (blk_cell hcb 11).trans hr11
      obtain ⟨wb, hwb⟩ : ∃ wb, (wo.alloc (.cells z13 76)).setRow wo.heap.size rc = wb := ⟨_, rfl⟩
      obtain ⟨B, hB⟩ : ∃ B, wo.heap.size = B := ⟨_, rfl⟩
      have HWB := Lib.hid hwb
      have HBB := Lib.hid hB
      rw [hwb] at hcb hkb
      rw [hB] at hcb
      have HB2 := Lib.hid (show wb.cell? ⟨B, 2, none⟩ = some (.string (sb e.bytes)) from (blk_cell hcb 2).trans hr2)
      have HB9 := Lib.hid (show wb.cell? ⟨B, 9, none⟩ = some (.int .i64 ((16 * e.a : Nat) : Int)) from (blk_cell hcb 9).trans hr9)
      have HB12 := Lib.hid (show wb.cell? ⟨B, 12, none⟩ = some (.slice (some ⟨o, 0, none⟩) M oc) from (blk_cell hcb 12).trans hr12)
      have HOC := Lib.hid (fun c hc => cell_kept hkb (hoc c hc) id)
      have KB := Lib.hid (Keep.trans VV.out hkb)
      unfold z13 at q10 q11 HWB
      obtain ⟨dd, hdd⟩ : ∃ dd, e.dropped = dd := ⟨_, rfl⟩
      obtain ⟨gg, hgg⟩ : ∃ gg, e.gone = gg := ⟨_, rfl⟩
      have hun := hsz.2
      unfold ME.stop lns at hun
      obtain ⟨a, ha⟩ : ∃ a, e.a = a := ⟨_, rfl⟩
      obtain ⟨L, hL⟩ : ∃ L, e.bytes.length = L := ⟨_, rfl⟩
      have hs2 : (sb e.bytes).size = L := by rw [sb_size, hL]
      rw [hgg] at q11 hsc
      rw [hdd] at q10
      have htl := HTL.out k
      rw [HT.out, HN.out] at htl
      clear hrg hfit he hrc hone hs13 hr2 hr9 hr10 hr11 hr12 hA hv hoc hcb hkb hwb hB hkl
      cases gg with
      | true =>
        have HSC := Lib.hid (show ρ.txtTo (k + 1) = t by rw [hsc]; simp)
        clear hsc hgg hdd ha hL hsz hid hol hun htl
        go_wp2_with (first
          | (refine wpList_load_mid rfl 76 (.tmp 23) rfl g (k * 13) rfl _ _ RG.out Tryd.underlying76 rfl (by rw [re_length]; kernel_rfl) ?_; rw [RC.out])
          | (refine wpList_store_row rfl 76 (.tmp 5) (.tmp 24) rfl wo.heap.size 76 z13 rc rfl rfl (by exact heap_alloc_new _ _) (by rw [R13.out]; kernel_rfl) (by rw [R13.out]; rfl) R1.out ?_))
        rw [HWB.out]
        exact ⟨⟨k + 1, t, by omega, by go_num, rfl, HSC, KB⟩, by simp [RowKit.intOf]; omega⟩
      | false =>
        have hidk : e.id = k := hid
        have hhd : headTxt e = itoa (k : Int) ++ [32] ++ itoa ((16 * a : Nat) : Int) ++ [32] ++ itoa (L : Int) ++ [32] ++ itoa (dNum dd) := by unfold headTxt; rw [hidk, ha, hL, hdd]
        have hi0 := itoa_len (k : Int) (by omega)
        have hi1 := itoa_len ((16 * a : Nat) : Int) (by omega)
        have hi2 := itoa_len (L : Int) (by omega)
        have hi3 := itoa_len (dNum dd) (by unfold dNum; split <;> omega)
        have hsc2 : ρ.txtTo (k + 1) = (t ++ headTxt e) ++ owesTxt e.owed M ++ [10] := by rw [hsc, if_neg (by decide)]; unfold entTxt; rw [hol]; simp only [List.append_assoc]
        have HSC := Lib.hid hsc2
        obtain ⟨ow, how⟩ : ∃ ow, e.owed = ow := ⟨_, rfl⟩
        rw [how] at HSC HOC hol
        have hdn : dNum dd = 0 ∨ dNum dd = 1 := by unfold dNum; split <;> simp
        have D0 := Lib.hid (fun W => decimal_small (k : Int) (by omega) W)
        have D1 := Lib.hid (fun W => decimal_small ((16 * a : Nat) : Int) (by omega) W)
        have D2 := Lib.hid (fun W => decimal_small (L : Int) (by omega) W)
        have D3 := Lib.hid (fun W => decimal_small (dNum dd) (by omega) W)
        rw [ha] at HB9
        obtain ⟨av, hav⟩ : ∃ av : Int, ((16 * a : Nat) : Int) = av := ⟨_, rfl⟩
        rw [hav] at HB9 D1 hhd hi1
        obtain ⟨I0, hI0⟩ : ∃ x, itoa (k : Int) = x := ⟨_, rfl⟩
        obtain ⟨I1, hI1⟩ : ∃ x, itoa av = x := ⟨_, rfl⟩
        obtain ⟨I2, hI2⟩ : ∃ x, itoa (L : Int) = x := ⟨_, rfl⟩
        obtain ⟨I3, hI3⟩ : ∃ x, itoa (dNum dd) = x := ⟨_, rfl⟩
        rw [hI0] at D0 hhd hi0
        rw [hI1] at D1 hhd hi1
        rw [hI2] at D2 hhd hi2
        rw [hI3] at D3 hhd hi3
        obtain ⟨bs, hbs⟩ : ∃ bs, sb e.bytes = bs := ⟨_, rfl⟩
        rw [hbs] at HB2 hs2
        obtain ⟨t1, ht1⟩ : ∃ z, t ++ I0 = z := ⟨_, rfl⟩
        obtain ⟨t2, ht2⟩ : ∃ z, t1 ++ [32] = z := ⟨_, rfl⟩
        obtain ⟨t3, ht3⟩ : ∃ z, t2 ++ I1 = z := ⟨_, rfl⟩
        obtain ⟨t4, ht4⟩ : ∃ z, t3 ++ [32] = z := ⟨_, rfl⟩
        obtain ⟨t5, ht5⟩ : ∃ z, t4 ++ I2 = z := ⟨_, rfl⟩
        obtain ⟨t6, ht6⟩ : ∃ z, t5 ++ [32] = z := ⟨_, rfl⟩
        obtain ⟨t7, ht7⟩ : ∃ z, t6 ++ I3 = z := ⟨_, rfl⟩
        have At1 := Lib.hid (fun W : World => show (Op.stringOp .add (sb t) (sb I0)).run Tryd.prog W = .ok (.string (sb t1)) W by rw [← ht1]; exact HAS.out t I0 W (by omega))
        have At2 := Lib.hid (fun W : World => show (Op.stringOp .add (sb t1) ⟨#[32]⟩).run Tryd.prog W = .ok (.string (sb t2)) W by rw [← ht2]; exact HAS.out t1 [32] W (by rw [← ht1]; simp only [List.length_append, List.length_cons, List.length_nil]; omega))
        have At3 := Lib.hid (fun W : World => show (Op.stringOp .add (sb t2) (sb I1)).run Tryd.prog W = .ok (.string (sb t3)) W by rw [← ht3]; exact HAS.out t2 I1 W (by rw [← ht2, ← ht1]; simp only [List.length_append, List.length_cons, List.length_nil]; omega))
        have At4 := Lib.hid (fun W : World => show (Op.stringOp .add (sb t3) ⟨#[32]⟩).run Tryd.prog W = .ok (.string (sb t4)) W by rw [← ht4]; exact HAS.out t3 [32] W (by rw [← ht3, ← ht2, ← ht1]; simp only [List.length_append, List.length_cons, List.length_nil]; omega))
        have At5 := Lib.hid (fun W : World => show (Op.stringOp .add (sb t4) (sb I2)).run Tryd.prog W = .ok (.string (sb t5)) W by rw [← ht5]; exact HAS.out t4 I2 W (by rw [← ht4, ← ht3, ← ht2, ← ht1]; simp only [List.length_append, List.length_cons, List.length_nil]; omega))
        have At6 := Lib.hid (fun W : World => show (Op.stringOp .add (sb t5) ⟨#[32]⟩).run Tryd.prog W = .ok (.string (sb t6)) W by rw [← ht6]; exact HAS.out t5 [32] W (by rw [← ht5, ← ht4, ← ht3, ← ht2, ← ht1]; simp only [List.length_append, List.length_cons, List.length_nil]; omega))
        have At7 := Lib.hid (fun W : World => show (Op.stringOp .add (sb t6) (sb I3)).run Tryd.prog W = .ok (.string (sb t7)) W by rw [← ht7]; exact HAS.out t6 I3 W (by rw [← ht6, ← ht5, ← ht4, ← ht3, ← ht2, ← ht1]; simp only [List.length_append, List.length_cons, List.length_nil]; omega))
        have HT7 := Lib.hid (show t7 = t ++ headTxt e by rw [hhd, ← ht7, ← ht6, ← ht5, ← ht4, ← ht3, ← ht2, ← ht1]; simp only [List.append_assoc])
        have hl7 : t7.length ≤ 176 * N + 100 := by rw [← ht7, ← ht6, ← ht5, ← ht4, ← ht3, ← ht2, ← ht1]; simp only [List.length_append, List.length_cons, List.length_nil]; omega
        clear hsc hgg ha hL hsz hid hol hun hidk hhd hi0 hi1 hi2 hi3 hsc2 how hav hI0 hI1 hI2 hI3 hbs ht1 ht2 ht3 ht4 ht5 ht6 ht7 hdn htl
        have hxd : ∃ x : Int, dNum dd = x := ⟨_, rfl⟩
        have HDN := Lib.hid (show dNum dd = if dd then 1 else 0 from rfl)
        have HLO := Lib.hid (fun j (hj : j ≤ 4) => owesTxt_len ow j (by omega))
        clear hxd hdd
        cases dd
        all_goals (
          go_upto_region 10 with (first
            | (refine wpList_load_mid rfl 76 (.tmp 23) rfl g (k * 13) rfl _ _ RG.out Tryd.underlying76 rfl (by rw [re_length]; kernel_rfl) ?_; rw [RC.out])
            | (refine wpList_store_row rfl 76 (.tmp 5) (.tmp 24) rfl wo.heap.size 76 z13 rc rfl rfl (by exact heap_alloc_new _ _) (by rw [R13.out]; kernel_rfl) (by rw [R13.out]; rfl) R1.out ?_)))
        all_goals (rw [HWB.out]; try rw [HBB.out])
        all_goals clear q10 q11 c0
        · skip
          refine wp_region_drewU (S := (fun w' => Hid (Keep (fun _ => False) wb w'))) (D := []) (by kernel_rfl) (by exact Lib.hid (keep_draw _ wb)) (fun hH => ?_)
          refine wpAnyU_take (i := 0) (v := ?_) rfl (by kernel_rfl) (by kernel_rfl) (by kernel_rfl) (by kernel_rfl) (fun _ _ _ h => h) (Or.inl ⟨by rfl, ?_⟩) hH ?_
          rotate_left
          · (intro w'' hSw; (try dsimp only at hSw); go_simp; try with_reducible rfl)
          change wpAnyU _ _ _ _ _ _ _ _ (Act.put _ (some 29) _) _
          try simp only [Act.put, List.setIfInBounds_toArray, List.set_cons_zero, List.set_cons_succ]
          refine wpAnyU_take (i := 1) (v := ?_) rfl (by kernel_rfl) (by kernel_rfl) (by kernel_rfl) (by kernel_rfl) (fun _ _ _ h => h) (Or.inl ⟨by rfl, ?_⟩) hH ?_
          rotate_left
          · (intro w'' hSw; (try dsimp only at hSw); go_simp; try with_reducible rfl)
          change wpAnyU _ _ _ _ _ _ _ _ (Act.put _ (some 30) _) _
          try simp only [Act.put, List.setIfInBounds_toArray, List.set_cons_zero, List.set_cons_succ]
          refine wpAnyU_take (i := 5) (v := ?_) rfl (by kernel_rfl) (by kernel_rfl) (by kernel_rfl) (by kernel_rfl) (fun _ _ _ h => h) (Or.inl ⟨by rfl, ?_⟩) hH ?_
          rotate_left
          · (intro w'' hSw; (try dsimp only at hSw); go_simp; try with_reducible rfl)
          change wpAnyU _ _ _ _ _ _ _ _ (Act.put _ (some 34) _) _
          try simp only [Act.put, List.setIfInBounds_toArray, List.set_cons_zero, List.set_cons_succ]
          refine wpAnyU_take (i := 6) (v := ?_) rfl (by kernel_rfl) (by kernel_rfl) (by kernel_rfl) (by kernel_rfl) (fun _ _ _ h => h) (Or.inl ⟨by rfl, ?_⟩) hH ?_
          rotate_left
          · (intro w'' hSw; have q := cell_kept hSw.out HB9.out id; go_simp; try with_reducible rfl)
          change wpAnyU _ _ _ _ _ _ _ _ (Act.put _ (some 35) _) _
          try simp only [Act.put, List.setIfInBounds_toArray, List.set_cons_zero, List.set_cons_succ]
          refine wpAnyU_take (i := 10) (v := ?_) rfl (by kernel_rfl) (by kernel_rfl) (by kernel_rfl) (by kernel_rfl) (fun _ _ _ h => h) (Or.inl ⟨by rfl, ?_⟩) hH ?_
          rotate_left
          · (intro w'' hSw; (try dsimp only at hSw); go_simp; try with_reducible rfl)
          change wpAnyU _ _ _ _ _ _ _ _ (Act.put _ (some 39) _) _
          try simp only [Act.put, List.setIfInBounds_toArray, List.set_cons_zero, List.set_cons_succ]
          refine wpAnyU_take (i := 11) (v := ?_) rfl (by kernel_rfl) (by kernel_rfl) (by kernel_rfl) (by kernel_rfl) (fun _ _ _ h => h) (Or.inl ⟨by rfl, ?_⟩) hH ?_
          rotate_left
          · (intro w'' hSw; (try dsimp only at hSw); go_simp; try with_reducible rfl)
          change wpAnyU _ _ _ _ _ _ _ _ (Act.put _ (some 40) _) _
          try simp only [Act.put, List.setIfInBounds_toArray, List.set_cons_zero, List.set_cons_succ]
          refine wpAnyU_take (i := 12) (v := ?_) rfl (by kernel_rfl) (by kernel_rfl) (by kernel_rfl) (by kernel_rfl) (fun _ _ _ h => h) (Or.inl ⟨by rfl, ?_⟩) hH ?_
          rotate_left
          · (intro w'' hSw; have q := cell_kept hSw.out HB2.out id; go_simp; try with_reducible rfl)
          change wpAnyU _ _ _ _ _ _ _ _ (Act.put _ (some 41) _) _
          try simp only [Act.put, List.setIfInBounds_toArray, List.set_cons_zero, List.set_cons_succ]
          refine wpAnyU_take (i := 13) (v := ?_) rfl (by kernel_rfl) (by kernel_rfl) (by kernel_rfl) (by kernel_rfl) (fun _ _ _ h => h) (Or.inl ⟨by rfl, ?_⟩) hH ?_
          rotate_left
          · (intro w'' hSw; (try dsimp only at hSw); go_simp; try with_reducible rfl)
          change wpAnyU _ _ _ _ _ _ _ _ (Act.put _ (some 42) _) _
          try simp only [Act.put, List.setIfInBounds_toArray, List.set_cons_zero, List.set_cons_succ]
          refine wpAnyU_take (i := 17) (v := ?_) rfl (by kernel_rfl) (by kernel_rfl) (by kernel_rfl) (by kernel_rfl) (fun _ _ _ h => h) (Or.inl ⟨by rfl, ?_⟩) hH ?_
          rotate_left
          · (intro w'' hSw; (try dsimp only at hSw); go_simp; try with_reducible rfl)
          change wpAnyU _ _ _ _ _ _ _ _ (Act.put _ (some 46) _) _
          try simp only [Act.put, List.setIfInBounds_toArray, List.set_cons_zero, List.set_cons_succ]
          refine wpAnyU_ready (rs := [2]) (by kernel_rfl) (by simp) ?_
          refine AllReadyU.cons rfl (fun Kn hKn => ?_) AllReadyU.nil
          go_simp
          go_at_call 55
          (refine (show Calls Tryd.prog _ #[.int .i64 (k : Int)] _ _ from D0.out _).mono ?_)
          rintro ee w2 ⟨rfl, hk2⟩
          refine hKn.out _ _ ?_ (fun hH => ?_)
          · (exact Lib.hid (Keep.trans hH.out hk2))
          clear hKn Kn
          try simp only [Act.put, List.setIfInBounds_toArray, List.set_cons_zero, List.set_cons_succ]
          refine wpAnyU_take (i := 3) (v := ?_) rfl (by kernel_rfl) (by kernel_rfl) (by kernel_rfl) (by kernel_rfl) (fun _ _ _ h => h) (Or.inl ⟨by rfl, ?_⟩) hH ?_
          rotate_left
          · (intro w'' hSw; have q := At1.out w''; go_simp; try with_reducible rfl)
          change wpAnyU _ _ _ _ _ _ _ _ (Act.put _ (some 32) _) _
          try simp only [Act.put, List.setIfInBounds_toArray, List.set_cons_zero, List.set_cons_succ]
          refine wpAnyU_take (i := 4) (v := ?_) rfl (by kernel_rfl) (by kernel_rfl) (by kernel_rfl) (by kernel_rfl) (fun _ _ _ h => h) (Or.inl ⟨by rfl, ?_⟩) hH ?_
          rotate_left
          · (intro w'' hSw; have q := At2.out w''; go_simp; try with_reducible rfl)
          change wpAnyU _ _ _ _ _ _ _ _ (Act.put _ (some 33) _) _
          try simp only [Act.put, List.setIfInBounds_toArray, List.set_cons_zero, List.set_cons_succ]
          refine wpAnyU_ready (rs := [7]) (by kernel_rfl) (by simp) ?_
          refine AllReadyU.cons rfl (fun Kn hKn => ?_) AllReadyU.nil
          go_simp
          go_at_call 55
          (refine (show Calls Tryd.prog _ #[.int .i64 av] _ _ from D1.out _).mono ?_)
          rintro ee w2 ⟨rfl, hk2⟩
          refine hKn.out _ _ ?_ (fun hH => ?_)
          · (exact Lib.hid (Keep.trans hH.out hk2))
          clear hKn Kn
          try simp only [Act.put, List.setIfInBounds_toArray, List.set_cons_zero, List.set_cons_succ]
          refine wpAnyU_take (i := 8) (v := ?_) rfl (by kernel_rfl) (by kernel_rfl) (by kernel_rfl) (by kernel_rfl) (fun _ _ _ h => h) (Or.inl ⟨by rfl, ?_⟩) hH ?_
          rotate_left
          · (intro w'' hSw; have q := At3.out w''; go_simp; try with_reducible rfl)
          change wpAnyU _ _ _ _ _ _ _ _ (Act.put _ (some 37) _) _
          try simp only [Act.put, List.setIfInBounds_toArray, List.set_cons_zero, List.set_cons_succ]
          refine wpAnyU_take (i := 9) (v := ?_) rfl (by kernel_rfl) (by kernel_rfl) (by kernel_rfl) (by kernel_rfl) (fun _ _ _ h => h) (Or.inl ⟨by rfl, ?_⟩) hH ?_
          rotate_left
          · (intro w'' hSw; have q := At4.out w''; go_simp; try with_reducible rfl)
          change wpAnyU _ _ _ _ _ _ _ _ (Act.put _ (some 38) _) _
          try simp only [Act.put, List.setIfInBounds_toArray, List.set_cons_zero, List.set_cons_succ]
          refine wpAnyU_ready (rs := [14]) (by kernel_rfl) (by simp) ?_
          refine AllReadyU.cons rfl (fun Kn hKn => ?_) AllReadyU.nil
          go_simp
          go_at_call 55
          (refine (show Calls Tryd.prog _ #[.int .i64 (L : Int)] _ _ from D2.out _).mono ?_)
          rintro ee w2 ⟨rfl, hk2⟩
          refine hKn.out _ _ ?_ (fun hH => ?_)
          · (exact Lib.hid (Keep.trans hH.out hk2))
          clear hKn Kn
          try simp only [Act.put, List.setIfInBounds_toArray, List.set_cons_zero, List.set_cons_succ]
          refine wpAnyU_take (i := 15) (v := ?_) rfl (by kernel_rfl) (by kernel_rfl) (by kernel_rfl) (by kernel_rfl) (fun _ _ _ h => h) (Or.inl ⟨by rfl, ?_⟩) hH ?_
          rotate_left
          · (intro w'' hSw; have q := At5.out w''; go_simp; try with_reducible rfl)
          change wpAnyU _ _ _ _ _ _ _ _ (Act.put _ (some 44) _) _
          try simp only [Act.put, List.setIfInBounds_toArray, List.set_cons_zero, List.set_cons_succ]
          refine wpAnyU_take (i := 16) (v := ?_) rfl (by kernel_rfl) (by kernel_rfl) (by kernel_rfl) (by kernel_rfl) (fun _ _ _ h => h) (Or.inl ⟨by rfl, ?_⟩) hH ?_
          rotate_left
          · (intro w'' hSw; have q := At6.out w''; go_simp; try with_reducible rfl)
          change wpAnyU _ _ _ _ _ _ _ _ (Act.put _ (some 45) _) _
          try simp only [Act.put, List.setIfInBounds_toArray, List.set_cons_zero, List.set_cons_succ]
          refine wpAnyU_ready (rs := [18]) (by kernel_rfl) (by simp) ?_
          refine AllReadyU.cons rfl (fun Kn hKn => ?_) AllReadyU.nil
          go_simp
          go_at_call 55
          (refine (show Calls Tryd.prog _ #[.int .i64 0] _ _ from D3.out _).mono ?_)
          rintro ee w2 ⟨rfl, hk2⟩
          refine hKn.out _ _ ?_ (fun hH => ?_)
          · (exact Lib.hid (Keep.trans hH.out hk2))
          clear hKn Kn
          try simp only [Act.put, List.setIfInBounds_toArray, List.set_cons_zero, List.set_cons_succ]
          refine wpAnyU_take (i := 19) (v := ?_) rfl (by kernel_rfl) (by kernel_rfl) (by kernel_rfl) (by kernel_rfl) (fun _ _ _ h => h) (Or.inl ⟨by rfl, ?_⟩) hH ?_
          rotate_left
          · (intro w'' hSw; have q := At7.out w''; go_simp; try with_reducible rfl)
          change wpAnyU _ _ _ _ _ _ _ _ (Act.put _ (some 48) _) _
          try simp only [Act.put, List.setIfInBounds_toArray, List.set_cons_zero, List.set_cons_succ]
          refine wpAnyU_take (i := 20) (v := ?_) rfl (by kernel_rfl) (by kernel_rfl) (by kernel_rfl) (by kernel_rfl) (fun _ _ _ h => h) (Or.inl ⟨by rfl, ?_⟩) hH ?_
          rotate_left
          · (intro w'' hSw; (try dsimp only at hSw); go_simp; try with_reducible rfl)
          change wpAnyU _ _ _ _ _ _ _ _ (Act.put _ (some 3) _) _
          try simp only [Act.put, List.setIfInBounds_toArray, List.set_cons_zero, List.set_cons_succ]
          refine wpAnyU_done (by kernel_rfl) ?_ _
          have T0 := Lib.hid (show t7 = t7 ++ owesTxt ow 0 by simp [owesTxt])
          obtain ⟨wd, hwd⟩ : ∃ wd : World, wd = w2 := ⟨_, rfl⟩
          have HHW := Lib.hid hH.out
          go_wp2_with fail
          go_loopw [3, 7] (fun s i wr => ∃ (j : Nat) (y : Bytes), j ≤ M ∧ i = .int .i64 (j : Int) ∧ s = .string (sb y) ∧ Hid (y = t7 ++ owesTxt ow j) ∧ Hid (Keep (fun _ => False) wb wr)) (fun _ i _ => M + 1 - (RowKit.intOf i).toNat)
          case atStart => exact ⟨0, t7, Nat.zero_le _, rfl, rfl, T0, HHW⟩
          case round =>
            obtain ⟨j, y, hj, rfl, rfl, HY, KK⟩ := hrel
            obtain ⟨wx, rfl⟩ : ∃ wx : World, wx = wr := ⟨_, rfl⟩
            have d12 := cell_kept KK.out HB12.out id
            have hyl : y.length ≤ 176 * N + 100 + 22 * j := by rw [HY.out, List.length_append]; have := HLO.out j (by omega); omega
            by_cases hlt2 : j < M
            · have hb2 : decide (j < M) = true := by simpa using hlt2
              have qj := cell_kept KK.out (HOC.out j hlt2) id
              cases hx : ow.getD j false with
              | true =>
                rw [hx] at qj
                have hil := itoa_len (j : Int) (by omega)
                have HDC := Lib.hid (fun W => decimal_small (j : Int) (by omega) W)
                obtain ⟨I, hI⟩ : ∃ x, itoa (j : Int) = x := ⟨_, rfl⟩
                rw [hI] at HDC hil
                obtain ⟨y1, hy1⟩ : ∃ z, y ++ [32] = z := ⟨_, rfl⟩
                obtain ⟨y2, hy2⟩ : ∃ z, y1 ++ I = z := ⟨_, rfl⟩
                have ha1 : ∀ W : World, (Op.stringOp .add (sb y) ⟨#[32]⟩).run Tryd.prog W = .ok (.string (sb y1)) W := fun W => by rw [← hy1]; exact HAS.out y [32] W (by simp only [List.length_cons, List.length_nil]; omega)
                have ha2 : ∀ W : World, (Op.stringOp .add (sb y1) (sb I)).run Tryd.prog W = .ok (.string (sb y2)) W := fun W => by rw [← hy2]; exact HAS.out y1 I W (by rw [← hy1]; simp only [List.length_append, List.length_cons, List.length_nil]; omega)
                have HYN := Lib.hid (show y2 = t7 ++ owesTxt ow (j + 1) by rw [← hy2, ← hy1, HY.out, ← hI, owesTxt_succ, if_pos hx]; simp only [List.append_assoc])
                clear hy1 hy2 hI hx hil hyl
                go_wp2_with fail
                ((with_reducible refine (HDC.out _).mono ?_); rintro ee w3 ⟨rfl, hk3⟩)
                have KN := Lib.hid (Keep.trans KK.out hk3)
                clear hk3
                go_wp2_with fail
                exact ⟨⟨j + 1, y2, by omega, by go_num, rfl, HYN, KN⟩, by simp [RowKit.intOf]; omega⟩
              | false =>
                rw [hx] at qj
                have HYN := Lib.hid (show y = t7 ++ owesTxt ow (j + 1) by rw [HY.out, owesTxt_succ, if_neg (by rw [hx]; decide)]; simp)
                clear hx hyl
                go_wp2_with fail
                exact ⟨⟨j + 1, y, by omega, by go_num, rfl, HYN, KK⟩, by simp [RowKit.intOf]; omega⟩
            · have hb2 : decide (j < M) = false := by simpa using hlt2
              obtain rfl : j = M := by omega
              obtain ⟨y1, hy1⟩ : ∃ z, y ++ [10] = z := ⟨_, rfl⟩
              have ha1 : ∀ W : World, (Op.stringOp .add (sb y) ⟨#[10]⟩).run Tryd.prog W = .ok (.string (sb y1)) W := fun W => by rw [← hy1]; exact HAS.out y [10] W (by simp only [List.length_cons, List.length_nil]; omega)
              have HTN := Lib.hid (show ρ.txtTo (k + 1) = y1 by rw [HSC.out, ← hy1, HY.out, HT7.out])
              have KO := Lib.hid (Keep.trans KB.out KK.out)
              clear hy1 hyl
              go_wp2_with fail
              exact ⟨⟨k + 1, y1, by omega, by go_num, rfl, HTN, KO⟩, by simp [RowKit.intOf]; omega⟩
        · skip
          refine wp_region_drewU (S := (fun w' => Hid (Keep (fun _ => False) wb w'))) (D := []) (by kernel_rfl) (by exact Lib.hid (keep_draw _ wb)) (fun hH => ?_)
          refine wpAnyU_take (i := 0) (v := ?_) rfl (by kernel_rfl) (by kernel_rfl) (by kernel_rfl) (by kernel_rfl) (fun _ _ _ h => h) (Or.inl ⟨by rfl, ?_⟩) hH ?_
          rotate_left
          · (intro w'' hSw; (try dsimp only at hSw); go_simp; try with_reducible rfl)
          change wpAnyU _ _ _ _ _ _ _ _ (Act.put _ (some 29) _) _
          try simp only [Act.put, List.setIfInBounds_toArray, List.set_cons_zero, List.set_cons_succ]
          refine wpAnyU_take (i := 1) (v := ?_) rfl (by kernel_rfl) (by kernel_rfl) (by kernel_rfl) (by kernel_rfl) (fun _ _ _ h => h) (Or.inl ⟨by rfl, ?_⟩) hH ?_
          rotate_left
          · (intro w'' hSw; (try dsimp only at hSw); go_simp; try with_reducible rfl)
          change wpAnyU _ _ _ _ _ _ _ _ (Act.put _ (some 30) _) _
          try simp only [Act.put, List.setIfInBounds_toArray, List.set_cons_zero, List.set_cons_succ]
          refine wpAnyU_take (i := 5) (v := ?_) rfl (by kernel_rfl) (by kernel_rfl) (by kernel_rfl) (by kernel_rfl) (fun _ _ _ h => h) (Or.inl ⟨by rfl, ?_⟩) hH ?_
          rotate_left
          · (intro w'' hSw; (try dsimp only at hSw); go_simp; try with_reducible rfl)
          change wpAnyU _ _ _ _ _ _ _ _ (Act.put _ (some 34) _) _
          try simp only [Act.put, List.setIfInBounds_toArray, List.set_cons_zero, List.set_cons_succ]
          refine wpAnyU_take (i := 6) (v := ?_) rfl (by kernel_rfl) (by kernel_rfl) (by kernel_rfl) (by kernel_rfl) (fun _ _ _ h => h) (Or.inl ⟨by rfl, ?_⟩) hH ?_
          rotate_left
          · (intro w'' hSw; have q := cell_kept hSw.out HB9.out id; go_simp; try with_reducible rfl)
          change wpAnyU _ _ _ _ _ _ _ _ (Act.put _ (some 35) _) _
          try simp only [Act.put, List.setIfInBounds_toArray, List.set_cons_zero, List.set_cons_succ]
          refine wpAnyU_take (i := 10) (v := ?_) rfl (by kernel_rfl) (by kernel_rfl) (by kernel_rfl) (by kernel_rfl) (fun _ _ _ h => h) (Or.inl ⟨by rfl, ?_⟩) hH ?_
          rotate_left
          · (intro w'' hSw; (try dsimp only at hSw); go_simp; try with_reducible rfl)
          change wpAnyU _ _ _ _ _ _ _ _ (Act.put _ (some 39) _) _
          try simp only [Act.put, List.setIfInBounds_toArray, List.set_cons_zero, List.set_cons_succ]
          refine wpAnyU_take (i := 11) (v := ?_) rfl (by kernel_rfl) (by kernel_rfl) (by kernel_rfl) (by kernel_rfl) (fun _ _ _ h => h) (Or.inl ⟨by rfl, ?_⟩) hH ?_
          rotate_left
          · (intro w'' hSw; (try dsimp only at hSw); go_simp; try with_reducible rfl)
          change wpAnyU _ _ _ _ _ _ _ _ (Act.put _ (some 40) _) _
          try simp only [Act.put, List.setIfInBounds_toArray, List.set_cons_zero, List.set_cons_succ]
          refine wpAnyU_take (i := 12) (v := ?_) rfl (by kernel_rfl) (by kernel_rfl) (by kernel_rfl) (by kernel_rfl) (fun _ _ _ h => h) (Or.inl ⟨by rfl, ?_⟩) hH ?_
          rotate_left
          · (intro w'' hSw; have q := cell_kept hSw.out HB2.out id; go_simp; try with_reducible rfl)
          change wpAnyU _ _ _ _ _ _ _ _ (Act.put _ (some 41) _) _
          try simp only [Act.put, List.setIfInBounds_toArray, List.set_cons_zero, List.set_cons_succ]
          refine wpAnyU_take (i := 13) (v := ?_) rfl (by kernel_rfl) (by kernel_rfl) (by kernel_rfl) (by kernel_rfl) (fun _ _ _ h => h) (Or.inl ⟨by rfl, ?_⟩) hH ?_
          rotate_left
          · (intro w'' hSw; (try dsimp only at hSw); go_simp; try with_reducible rfl)
          change wpAnyU _ _ _ _ _ _ _ _ (Act.put _ (some 42) _) _
          try simp only [Act.put, List.setIfInBounds_toArray, List.set_cons_zero, List.set_cons_succ]
          refine wpAnyU_take (i := 17) (v := ?_) rfl (by kernel_rfl) (by kernel_rfl) (by kernel_rfl) (by kernel_rfl) (fun _ _ _ h => h) (Or.inl ⟨by rfl, ?_⟩) hH ?_
          rotate_left
          · (intro w'' hSw; (try dsimp only at hSw); go_simp; try with_reducible rfl)
          change wpAnyU _ _ _ _ _ _ _ _ (Act.put _ (some 46) _) _
          try simp only [Act.put, List.setIfInBounds_toArray, List.set_cons_zero, List.set_cons_succ]
          refine wpAnyU_ready (rs := [2]) (by kernel_rfl) (by simp) ?_
          refine AllReadyU.cons rfl (fun Kn hKn => ?_) AllReadyU.nil
          go_simp
          go_at_call 55
          (refine (show Calls Tryd.prog _ #[.int .i64 (k : Int)] _ _ from D0.out _).mono ?_)
          rintro ee w2 ⟨rfl, hk2⟩
          refine hKn.out _ _ ?_ (fun hH => ?_)
          · (exact Lib.hid (Keep.trans hH.out hk2))
          clear hKn Kn
          try simp only [Act.put, List.setIfInBounds_toArray, List.set_cons_zero, List.set_cons_succ]
          refine wpAnyU_take (i := 3) (v := ?_) rfl (by kernel_rfl) (by kernel_rfl) (by kernel_rfl) (by kernel_rfl) (fun _ _ _ h => h) (Or.inl ⟨by rfl, ?_⟩) hH ?_
          rotate_left
          · (intro w'' hSw; have q := At1.out w''; go_simp; try with_reducible rfl)
          change wpAnyU _ _ _ _ _ _ _ _ (Act.put _ (some 32) _) _
          try simp only [Act.put, List.setIfInBounds_toArray, List.set_cons_zero, List.set_cons_succ]
          refine wpAnyU_take (i := 4) (v := ?_) rfl (by kernel_rfl) (by kernel_rfl) (by kernel_rfl) (by kernel_rfl) (fun _ _ _ h => h) (Or.inl ⟨by rfl, ?_⟩) hH ?_
          rotate_left
          · (intro w'' hSw; have q := At2.out w''; go_simp; try with_reducible rfl)
          change wpAnyU _ _ _ _ _ _ _ _ (Act.put _ (some 33) _) _
          try simp only [Act.put, List.setIfInBounds_toArray, List.set_cons_zero, List.set_cons_succ]
          refine wpAnyU_ready (rs := [7]) (by kernel_rfl) (by simp) ?_
          refine AllReadyU.cons rfl (fun Kn hKn => ?_) AllReadyU.nil
          go_simp
          go_at_call 55
          (refine (show Calls Tryd.prog _ #[.int .i64 av] _ _ from D1.out _).mono ?_)
          rintro ee w2 ⟨rfl, hk2⟩
          refine hKn.out _ _ ?_ (fun hH => ?_)
          · (exact Lib.hid (Keep.trans hH.out hk2))
          clear hKn Kn
          try simp only [Act.put, List.setIfInBounds_toArray, List.set_cons_zero, List.set_cons_succ]
          refine wpAnyU_take (i := 8) (v := ?_) rfl (by kernel_rfl) (by kernel_rfl) (by kernel_rfl) (by kernel_rfl) (fun _ _ _ h => h) (Or.inl ⟨by rfl, ?_⟩) hH ?_
          rotate_left
          · (intro w'' hSw; have q := At3.out w''; go_simp; try with_reducible rfl)
          change wpAnyU _ _ _ _ _ _ _ _ (Act.put _ (some 37) _) _
          try simp only [Act.put, List.setIfInBounds_toArray, List.set_cons_zero, List.set_cons_succ]
          refine wpAnyU_take (i := 9) (v := ?_) rfl (by kernel_rfl) (by kernel_rfl) (by kernel_rfl) (by kernel_rfl) (fun _ _ _ h => h) (Or.inl ⟨by rfl, ?_⟩) hH ?_
          rotate_left
          · (intro w'' hSw; have q := At4.out w''; go_simp; try with_reducible rfl)
          change wpAnyU _ _ _ _ _ _ _ _ (Act.put _ (some 38) _) _
          try simp only [Act.put, List.setIfInBounds_toArray, List.set_cons_zero, List.set_cons_succ]
          refine wpAnyU_ready (rs := [14]) (by kernel_rfl) (by simp) ?_
          refine AllReadyU.cons rfl (fun Kn hKn => ?_) AllReadyU.nil
          go_simp
          go_at_call 55
          (refine (show Calls Tryd.prog _ #[.int .i64 (L : Int)] _ _ from D2.out _).mono ?_)
          rintro ee w2 ⟨rfl, hk2⟩
          refine hKn.out _ _ ?_ (fun hH => ?_)
          · (exact Lib.hid (Keep.trans hH.out hk2))
          clear hKn Kn
          try simp only [Act.put, List.setIfInBounds_toArray, List.set_cons_zero, List.set_cons_succ]
          refine wpAnyU_take (i := 15) (v := ?_) rfl (by kernel_rfl) (by kernel_rfl) (by kernel_rfl) (by kernel_rfl) (fun _ _ _ h => h) (Or.inl ⟨by rfl, ?_⟩) hH ?_
          rotate_left
          · (intro w'' hSw; have q := At5.out w''; go_simp; try with_reducible rfl)
          change wpAnyU _ _ _ _ _ _ _ _ (Act.put _ (some 44) _) _
          try simp only [Act.put, List.setIfInBounds_toArray, List.set_cons_zero, List.set_cons_succ]
          refine wpAnyU_take (i := 16) (v := ?_) rfl (by kernel_rfl) (by kernel_rfl) (by kernel_rfl) (by kernel_rfl) (fun _ _ _ h => h) (Or.inl ⟨by rfl, ?_⟩) hH ?_
          rotate_left
          · (intro w'' hSw; have q := At6.out w''; go_simp; try with_reducible rfl)
          change wpAnyU _ _ _ _ _ _ _ _ (Act.put _ (some 45) _) _
          try simp only [Act.put, List.setIfInBounds_toArray, List.set_cons_zero, List.set_cons_succ]
          refine wpAnyU_ready (rs := [18]) (by kernel_rfl) (by simp) ?_
          refine AllReadyU.cons rfl (fun Kn hKn => ?_) AllReadyU.nil
          go_simp
          go_at_call 55
          (refine (show Calls Tryd.prog _ #[.int .i64 1] _ _ from D3.out _).mono ?_)
          rintro ee w2 ⟨rfl, hk2⟩
          refine hKn.out _ _ ?_ (fun hH => ?_)
          · (exact Lib.hid (Keep.trans hH.out hk2))
          clear hKn Kn
          try simp only [Act.put, List.setIfInBounds_toArray, List.set_cons_zero, List.set_cons_succ]
          refine wpAnyU_take (i := 19) (v := ?_) rfl (by kernel_rfl) (by kernel_rfl) (by kernel_rfl) (by kernel_rfl) (fun _ _ _ h => h) (Or.inl ⟨by rfl, ?_⟩) hH ?_
          rotate_left
          · (intro w'' hSw; have q := At7.out w''; go_simp; try with_reducible rfl)
          change wpAnyU _ _ _ _ _ _ _ _ (Act.put _ (some 48) _) _
          try simp only [Act.put, List.setIfInBounds_toArray, List.set_cons_zero, List.set_cons_succ]
          refine wpAnyU_take (i := 20) (v := ?_) rfl (by kernel_rfl) (by kernel_rfl) (by kernel_rfl) (by kernel_rfl) (fun _ _ _ h => h) (Or.inl ⟨by rfl, ?_⟩) hH ?_
          rotate_left
          · (intro w'' hSw; (try dsimp only at hSw); go_simp; try with_reducible rfl)
          change wpAnyU _ _ _ _ _ _ _ _ (Act.put _ (some 3) _) _
          try simp only [Act.put, List.setIfInBounds_toArray, List.set_cons_zero, List.set_cons_succ]
          refine wpAnyU_done (by kernel_rfl) ?_ _
          have T0 := Lib.hid (show t7 = t7 ++ owesTxt ow 0 by simp [owesTxt])
          obtain ⟨wd, hwd⟩ : ∃ wd : World, wd = w2 := ⟨_, rfl⟩
          have HHW := Lib.hid hH.out
          go_wp2_with fail
          go_loopw [3, 7] (fun s i wr => ∃ (j : Nat) (y : Bytes), j ≤ M ∧ i = .int .i64 (j : Int) ∧ s = .string (sb y) ∧ Hid (y = t7 ++ owesTxt ow j) ∧ Hid (Keep (fun _ => False) wb wr)) (fun _ i _ => M + 1 - (RowKit.intOf i).toNat)
          case atStart => exact ⟨0, t7, Nat.zero_le _, rfl, rfl, T0, HHW⟩
          case round =>
            obtain ⟨j, y, hj, rfl, rfl, HY, KK⟩ := hrel
            obtain ⟨wx, rfl⟩ : ∃ wx : World, wx = wr := ⟨_, rfl⟩
            have d12 := cell_kept KK.out HB12.out id
            have hyl : y.length ≤ 176 * N + 100 + 22 * j := by rw [HY.out, List.length_append]; have := HLO.out j (by omega); omega
            by_cases hlt2 : j < M
            · have hb2 : decide (j < M) = true := by simpa using hlt2
              have qj := cell_kept KK.out (HOC.out j hlt2) id
              cases hx : ow.getD j false with
              | true =>
                rw [hx] at qj
                have hil := itoa_len (j : Int) (by omega)
                have HDC := Lib.hid (fun W => decimal_small (j : Int) (by omega) W)
                obtain ⟨I, hI⟩ : ∃ x, itoa (j : Int) = x := ⟨_, rfl⟩
                rw [hI] at HDC hil
                obtain ⟨y1, hy1⟩ : ∃ z, y ++ [32] = z := ⟨_, rfl⟩
                obtain ⟨y2, hy2⟩ : ∃ z, y1 ++ I = z := ⟨_, rfl⟩
                have ha1 : ∀ W : World, (Op.stringOp .add (sb y) ⟨#[32]⟩).run Tryd.prog W = .ok (.string (sb y1)) W := fun W => by rw [← hy1]; exact HAS.out y [32] W (by simp only [List.length_cons, List.length_nil]; omega)
                have ha2 : ∀ W : World, (Op.stringOp .add (sb y1) (sb I)).run Tryd.prog W = .ok (.string (sb y2)) W := fun W => by rw [← hy2]; exact HAS.out y1 I W (by rw [← hy1]; simp only [List.length_append, List.length_cons, List.length_nil]; omega)
                have HYN := Lib.hid (show y2 = t7 ++ owesTxt ow (j + 1) by rw [← hy2, ← hy1, HY.out, ← hI, owesTxt_succ, if_pos hx]; simp only [List.append_assoc])
                clear hy1 hy2 hI hx hil hyl
                go_wp2_with fail
                ((with_reducible refine (HDC.out _).mono ?_); rintro ee w3 ⟨rfl, hk3⟩)
                have KN := Lib.hid (Keep.trans KK.out hk3)
                clear hk3
                go_wp2_with fail
                exact ⟨⟨j + 1, y2, by omega, by go_num, rfl, HYN, KN⟩, by simp [RowKit.intOf]; omega⟩
              | false =>
                rw [hx] at qj
                have HYN := Lib.hid (show y = t7 ++ owesTxt ow (j + 1) by rw [HY.out, owesTxt_succ, if_neg (by rw [hx]; decide)]; simp)
                clear hx hyl
                go_wp2_with fail
                exact ⟨⟨j + 1, y, by omega, by go_num, rfl, HYN, KK⟩, by simp [RowKit.intOf]; omega⟩
            · have hb2 : decide (j < M) = false := by simpa using hlt2
              obtain rfl : j = M := by omega
              obtain ⟨y1, hy1⟩ : ∃ z, y ++ [10] = z := ⟨_, rfl⟩
              have ha1 : ∀ W : World, (Op.stringOp .add (sb y) ⟨#[10]⟩).run Tryd.prog W = .ok (.string (sb y1)) W := fun W => by rw [← hy1]; exact HAS.out y [10] W (by simp only [List.length_cons, List.length_nil]; omega)
              have HTN := Lib.hid (show ρ.txtTo (k + 1) = y1 by rw [HSC.out, ← hy1, HY.out, HT7.out])
              have KO := Lib.hid (Keep.trans KB.out KK.out)
              clear hy1 hyl
              go_wp2_with fail
              exact ⟨⟨k + 1, y1, by omega, by go_num, rfl, HTN, KO⟩, by simp [RowKit.intOf]; omega⟩
    · have hb : decide (k < N) = false := by simpa using hlt
      obtain rfl : k = N := by omega
      have htl := HTL.out k
      rw [HT.out, HN.out] at htl
      obtain ⟨bI, hI, _, hcpv⟩ := (H.out.quiet VV.out).cpus
      rw [HM.out] at hcpv
      have hinn : ∀ v ∈ ρ.inn, -1 ≤ v ∧ v ≤ 1000000 := fun v hv => by have := H.out.ok.inn v hv; have := H.out.ok.len; omega
      have HIL := Lib.hid (fun j (hj : j ≤ M) => innTxt_len hinn j (by rw [HM.out]; exact hj))
      have HIV := Lib.hid (fun j (hj : j < M) => hinn _ (getD_mem (x := 0) (show j < ρ.inn.length by rw [HM.out]; exact hj)))
      have HCV := Lib.hid hcpv
      have c1 := (H.out.quiet VV.out).c1
      rw [HM.out, hI] at c1
      obtain ⟨z, hz⟩ : ∃ z, t ++ [105, 110] = z := ⟨_, rfl⟩
      have hzl : z.length ≤ 176 * k + 2 := by rw [← hz]; simp only [List.length_append, List.length_cons, List.length_nil]; omega
      have hadd : ∀ W : World, (Op.stringOp .add (sb t) ⟨#[105, 110]⟩).run Tryd.prog W = .ok (.string (sb z)) W := fun W => by rw [← hz]; exact HAS.out t [105, 110] W (by simp only [List.length_cons, List.length_nil]; omega)
      have HRZ := Lib.hid (show sb (z ++ innTxt ρ.inn M ++ [10]) = R by rw [← HR.out, HT.out, ← hz])
      have I0 := Lib.hid (show z = z ++ innTxt ρ.inn 0 by simp [innTxt])
      have HC1 := Lib.hid c1
      clear hcpv hinn hI hz htl
      go_wp2_with fail
      clear hadd c1 c0
      go_loopw [3, 8] (fun s i wr => ∃ (j : Nat) (y : Bytes), j ≤ M ∧ i = .int .i64 (j : Int) ∧ s = .string (sb y) ∧ Hid (y = z ++ innTxt ρ.inn j) ∧ Hid (Keep (fun _ => False) wo wr)) (fun _ i _ => M + 1 - (RowKit.intOf i).toNat)
      case atStart => exact ⟨0, z, Nat.zero_le _, rfl, rfl, I0, Lib.hid (Keep.refl _ _)⟩
      case round =>
        obtain ⟨j, y, hj, rfl, rfl, HY, KK⟩ := hrel
        obtain ⟨wx, rfl⟩ : ∃ wx : World, wx = wr := ⟨_, rfl⟩
        have d1 := cell_kept KK.out HC1.out id
        have hyl : y.length ≤ 176 * k + 2 + 22 * j := by rw [HY.out, List.length_append]; have := HIL.out j hj; omega
        by_cases hlt2 : j < M
        · have hb2 : decide (j < M) = true := by simpa using hlt2
          have qj := cell_kept KK.out (HCV.out j hlt2) id
          have hvb := HIV.out j hlt2
          obtain ⟨iv, hiv⟩ : ∃ iv, ρ.inn.getD j 0 = iv := ⟨_, rfl⟩
          rw [hiv] at qj hvb
          have hil := itoa_len iv (by omega)
          have HDC := Lib.hid (fun W => decimal_small iv hvb W)
          obtain ⟨I, hI⟩ : ∃ x, itoa iv = x := ⟨_, rfl⟩
          rw [hI] at HDC hil
          obtain ⟨y1, hy1⟩ : ∃ z, y ++ [32] = z := ⟨_, rfl⟩
          obtain ⟨y2, hy2⟩ : ∃ z, y1 ++ I = z := ⟨_, rfl⟩
          have ha1 : ∀ W : World, (Op.stringOp .add (sb y) ⟨#[32]⟩).run Tryd.prog W = .ok (.string (sb y1)) W := fun W => by rw [← hy1]; exact HAS.out y [32] W (by simp only [List.length_cons, List.length_nil]; omega)
          have ha2 : ∀ W : World, (Op.stringOp .add (sb y1) (sb I)).run Tryd.prog W = .ok (.string (sb y2)) W := fun W => by rw [← hy2]; exact HAS.out y1 I W (by rw [← hy1]; simp only [List.length_append, List.length_cons, List.length_nil]; omega)
          have HYN := Lib.hid (show y2 = z ++ innTxt ρ.inn (j + 1) by rw [← hy2, ← hy1, HY.out, ← hI, ← hiv, innTxt_succ]; simp only [List.append_assoc])
          clear hy1 hy2 hI hiv hvb hil hyl
          go_wp2_with fail
          ((with_reducible refine (HDC.out _).mono ?_); rintro ee w3 ⟨rfl, hk3⟩)
          have KN := Lib.hid (Keep.trans KK.out hk3)
          clear hk3
          go_wp2_with fail
          exact ⟨⟨j + 1, y2, by omega, by go_num, rfl, HYN, KN⟩, by simp [RowKit.intOf]; omega⟩
        · have hb2 : decide (j < M) = false := by simpa using hlt2
          obtain rfl : j = M := by omega
          have hadd : ∀ W : World, (Op.stringOp .add (sb y) ⟨#[10]⟩).run Tryd.prog W = .ok (.string R) W := fun W => by
            rw [← HRZ.out, ← HY.out]
            exact HAS.out y [10] W (by simp only [List.length_cons, List.length_nil]; omega)
          go_wp2_with fail
          go_ret
          exact ⟨rfl, Keep.trans VV.out KK.out⟩
end Go.Proofs.YtnhajhejkecihaaDoor
/- strings.Builder at this dump: copyCheck, WriteString; by the shelf's words for a builder. -/
namespace Go.Proofs.YtnhajhejkecihaaDoor
open Go.RowKit
set_option linter.unusedVariables false
set_option linter.unusedSimpArgs false

def BD (B b : Nat) (l : Bytes) (w : World) : Prop := Lib.IsBuilder 92 5 B b (Lib.byteCells l) w
theorem bd_size : (Tryd.prog.info? 92).map (·.size) = some 2 := by kernel_rfl
theorem bd_lies : liesAt Tryd.prog Tryd.prog.depth 92 (2 / Tryd.prog.cellsOf 92) 0 92 1 = true := by kernel_rfl
set_option maxHeartbeats 1000000 in
set_option maxRecDepth 100000 in
theorem bcheck_used (b : Nat) (w : World) (h0 : w.cell? ⟨b, 0, none⟩ = some (.pointer (some ⟨b, 0, none⟩))) :
    Calls Tryd.prog 62 #[.pointer (some ⟨b, 0, none⟩)] w fun e w' => e = .returned (.tuple #[]) ∧ w' = w := by
  obtain ⟨j, hj, _⟩ := Option.map_eq_some_iff.1 bd_size
  go_enter Tryd.func62, Tryd.ntmps62
  go_wp2_with fail
  rw [Lib.run_neq_ptr_same w _ Tryd.underlying90 hj]
  go_wp2_with fail
  go_end0
  exact ⟨rfl, rfl⟩
set_option maxHeartbeats 1000000 in
set_option maxRecDepth 100000 in
theorem bcheck_fresh (b : Nat) (w : World) (h0 : w.cell? ⟨b, 0, none⟩ = some (.pointer none)) (hsh : w.shape? b = some (92, 2)) (hfz : w.frozen? ⟨b, 0, none⟩ = false) :
    Calls Tryd.prog 62 #[.pointer (some ⟨b, 0, none⟩)] w fun e w' => e = .returned (.tuple #[]) ∧ w' = w.setCell ⟨b, 0, none⟩ (.pointer (some ⟨b, 0, none⟩)) := by
  obtain ⟨j, hj, hjs⟩ := Option.map_eq_some_iff.1 bd_size
  go_enter Tryd.func62, Tryd.ntmps62
  go_wp2_with fail
  rw [Lib.run_to_unsafe w ⟨b, 0, none⟩ Tryd.underlying90 Tryd.underlying123 hj (by rw [hjs]; decide) hsh (Nat.zero_lt_succ 1)]
  simp only [Result.andThen]
  rw [Oper.upon_value]
  go_wp2_with fail
  rw [run_callFunc_extern Tryd.func70 (by kernel_rfl) (by kernel_rfl) (by kernel_rfl) (e := Extern.AbiNoEscape.same) (by kernel_rfl)]
  rw [Lib.run_noEscape]
  simp only [Result.andThen]
  rw [Oper.upon_value]
  go_wp2_with fail
  rw [Lib.run_from_unsafe w ⟨b, 0, none⟩ Tryd.underlying123 Tryd.underlying90 hj hsh bd_lies]
  simp only [Result.andThen]
  rw [Oper.upon_value]
  go_wp2_with fail
  go_end0
  exact ⟨rfl, rfl⟩
theorem bcheck_any (B b : Nat) (bs : List Value) (w : World) (h : Lib.IsBuilder 92 5 B b bs w) :
    Calls Tryd.prog 62 #[.pointer (some ⟨b, 0, none⟩)] w fun e w' => e = .returned (.tuple #[]) ∧ (Lib.BuilderAt 92 5 B b (.pointer (some ⟨b, 0, none⟩)) bs w' ∧ Below B w w') := by
  rcases h with h | h
  · refine (bcheck_fresh b w h.cell0 h.shape h.frozen0).mono ?_
    rintro e w' ⟨rfl, rfl⟩
    exact ⟨rfl, h.used _, (Below.refl B w).setCell (p := ⟨b, 0, none⟩) h.1 _⟩
  · refine (bcheck_used b w h.cell0).mono ?_
    rintro e w' ⟨rfl, rfl⟩
    exact ⟨rfl, h, Below.refl B _⟩
set_option maxHeartbeats 2000000 in
set_option maxRecDepth 100000 in
theorem bwrite_any (B b : Nat) (l s : Bytes) (w : World) (h : BD B b l w) (hlen : l.length + s.length ≤ 140737488355328) (hBw : B ≤ w.heap.size) :
    Calls Tryd.prog 41 #[.pointer (some ⟨b, 0, none⟩), .string (sb s)] w fun e w' => e = .returned (.tuple #[.int .i64 s.length, .nilIface]) ∧ BD B b (l ++ s) w' ∧ Since B w w' := by
  obtain ⟨i0, hi, hz0, hz1, hz2⟩ := info_parts (show (Tryd.prog.info? 5).map (fun i => (i.zero, i.size, i.bytes)) = some (some (.int .u8 0), 1, 1) by kernel_rfl)
  have hsz : (sb s).size = s.length := sb_size s
  obtain ⟨sl, hsl⟩ : ∃ sl, s.length = sl := ⟨_, rfl⟩
  rw [hsl] at hsz
  have HSL := Lib.hid hsl
  have hcat : Lib.byteCells l ++ Lib.strCells (sb s) = Lib.byteCells (l ++ s) := by
    unfold Lib.byteCells Lib.strCells
    rw [List.map_append]
    rfl
  have HCAT := Lib.hid hcat
  have hll : (Lib.byteCells l).length = l.length := Lib.byteCells_length _
  have HB := Lib.hid (bcheck_any B b (Lib.byteCells l) w h)
  rw [hsl] at hlen ⊢
  clear hsl hcat h
  go_enter Tryd.func41, Tryd.ntmps41
  go_wp2_with fail
  ((with_reducible refine HB.out.mono ?_); rintro e w1 ⟨rfl, h1, hb1⟩)
  clear HB
  obtain ⟨hB, v, hbk, hown, hne⟩ := h1
  have c0 : w1.cell? ⟨b, 0, none⟩ = some (.pointer (some ⟨b, 0, none⟩)) := by rw [Lib.cell_of_heap hbk]; rfl
  have c1 : w1.cell? ⟨b, 1, none⟩ = some v := by rw [Lib.cell_of_heap hbk]; rfl
  go_wp2_with (at_builtin; refine Lib.wpList_append_own_string _ rfl _ _ 53 9 rfl B 5 i0 Tryd.underlying53 Tryd.underlying9 hi hz0 hz1 hz2 _ _ _ rfl hown (sb s) rfl ?c3 ?c4 ?c5 ?_)
  case c3 => unfold maxLen; omega
  case c4 => omega
  case c5 => have := hb1.size; omega
  intro v' w2 hown' hgrow _
  have hlt : b < w1.heap.size := blk_lt hbk
  have hb2 : w2.heap[b]? = some (.cells #[.pointer (some ⟨b, 0, none⟩), v] 92 (0, 0)) := by
    rw [hgrow.block b hlt (fun e => hne e.symm)]
    exact hbk
  have d0 : w2.cell? ⟨b, 0, none⟩ = some (.pointer (some ⟨b, 0, none⟩)) := by rw [Lib.cell_of_heap hb2]; rfl
  have d1 : w2.cell? ⟨b, 1, none⟩ = some v := by rw [Lib.cell_of_heap hb2]; rfl
  have f1 : w2.frozen? ⟨b, 1, none⟩ = false := Lib.frozen_of_heap hb2 1
  obtain ⟨ao, n', cap, rfl⟩ : ∃ ao n' cap, v' = .slice ao n' cap := by
    rcases hown'.2 with ⟨hv, _⟩ | ⟨g, cap, cur, hv, _⟩
    · exact ⟨_, _, _, hv⟩
    · exact ⟨_, _, _, hv⟩
  have HF := Lib.hid (show BD B b (l ++ s) (w2.setCell ⟨b, 1, none⟩ (.slice ao n' cap)) ∧ Since B w (w2.setCell ⟨b, 1, none⟩ (.slice ao n' cap)) from by
    refine ⟨?_, ?_⟩
    · unfold BD
      rw [← HCAT.out]
      exact Or.inr (Lib.BuilderAt.put (T := 92) (e := 5) hB hb2 (bs' := Lib.byteCells l ++ Lib.strCells (sb s)) (by rw [List.length_append, Lib.strCells_length, hll, hsz]; exact hown') (by decide))
    · have hbb := (hb1.grown hgrow (by have := hb1.size; omega) (fun k hk => (hown.lt k hk).1)).setCell (p := ⟨b, 1, none⟩) hB (.slice ao n' cap)
      exact ⟨hbb.os, hbb.tape, hbb.output, hbb.size, fun k _ hk => hbb.block k (by omega)⟩)
  clear hown hown' hgrow hbk hb1 c0 c1 hb2
  go_wp2_with fail
  go_ret2
  exact ⟨rfl, HF.out⟩
theorem BD.fresh (w : World) : BD w.heap.size w.heap.size [] (w.alloc (.cells #[.pointer none, .slice none 0 0] 92)) := Lib.fresh_isBuilder _ _ _
theorem BD.str {B b : Nat} {l : Bytes} {w : World} (h : BD B b l w) (hBw : B ≤ w.heap.size) : Calls Tryd.prog 43 #[.pointer (some ⟨b, 0, none⟩)] w fun e w' => e = .returned (.string (sb l)) ∧ Since B w w' :=
  (Tryd.Builder_String_any B b l w h hBw).mono fun e w' ⟨h1, h2⟩ => ⟨h1, ⟨h2.os, h2.tape, h2.output, h2.size, fun k _ hk => h2.block k (by omega)⟩⟩
theorem BD.keep {B b : Nat} {l : Bytes} {w w' : World} {F : Nat → Prop} (h : BD B b l w) (hk : Keep F w w') (hF : ∀ v, w.cell? ⟨b, 1, none⟩ = some v → ∀ k, k = b ∨ v.ownBlock = some k → ¬ F k) : BD B b l w' := by
  have main : ∀ p, Lib.BuilderAt 92 5 B b p (Lib.byteCells l) w → Lib.BuilderAt 92 5 B b p (Lib.byteCells l) w' := by
    rintro p ⟨hB, v, hbk, hown, hne⟩
    have hv : w.cell? ⟨b, 1, none⟩ = some v := (blk_cell hbk 1).trans rfl
    exact ⟨hB, v, (hk.block b (blk_lt hbk) (hF v hv b (.inl rfl))).trans hbk, hk.own hown (fun k e => hF v hv k (.inr e)), hne⟩
  rcases h with h | h
  · exact .inl (main _ h)
  · exact .inr (main _ h)
theorem BD.quiet {B b : Nat} {l : Bytes} {w w' : World} (h : BD B b l w) (hk : Keep (fun _ => False) w w') : BD B b l w' := h.keep hk (fun _ _ _ _ => id)
end Go.Proofs.YtnhajhejkecihaaDoor
/- Install: the store's Text. -/
namespace Go.Proofs.YtnhajhejkecihaaDoor
open Go.RowKit Go.Lib
set_option linter.unusedVariables false
set_option linter.unusedSimpArgs false

theorem Tryd.strsTy : OneTy Tryd.prog 51 9 (.string ⟨#[]⟩) 16 := ⟨Tryd.underlying51, by kernel_rfl, rfl⟩
theorem BD.since {B b : Nat} {l : Bytes} {w w' : World} (h : BD B b l w) (hk : Since w.heap.size w w') : BD B b l w' := by
  have main : ∀ p, Lib.BuilderAt 92 5 B b p (Lib.byteCells l) w → Lib.BuilderAt 92 5 B b p (Lib.byteCells l) w' := by
    rintro p ⟨hB, v, hbk, hown, hne⟩
    exact ⟨hB, v, (hk.block b (blk_lt hbk) (by have := blk_lt hbk; omega)).trans hbk, hk.own hown (fun k e => by have := own_lt hown k e; omega), hne⟩
  rcases h with h | h
  · exact .inl (main _ h)
  · exact .inr (main _ h)
theorem own_cap {w : World} {base n c : Nat} {e : TypeId} {A : Option Addr} {xs : List Value} (h : w.ownsRow base e 1 (.slice A n c) n xs) : n ≤ c ∧ CellsAt w A n xs := by
  obtain ⟨A', c', h1, h2⟩ := owns_cells h
  injection h1 with h3 _ _
  subst h3
  refine ⟨?_, h2⟩
  rcases h.2 with ⟨h4, h5⟩ | ⟨g, cap, cur, h4, _, _, h6, _⟩
  · omega
  · injection h4 with _ _ h7
    omega
theorem strs_one (l : List Bytes) : ∀ u ∈ strs l, u.oneCell' = true := by
  intro u hu
  obtain ⟨_, _, rfl⟩ := List.mem_map.1 hu
  rfl
theorem strs_snoc (l : List Bytes) (x : Bytes) : strs l ++ strs [x] = strs (l ++ [x]) := by simp [strs]
def owesW (o : List Bool) : Nat → List Bytes
  | 0 => []
  | j + 1 => owesW o j ++ (if o.getD j false then [itoa (j : Int)] else [])
theorem owesW_succ (o : List Bool) (j : Nat) : owesW o (j + 1) = owesW o j ++ (if o.getD j false then [itoa (j : Int)] else []) := rfl
theorem join_snoc (l : List Bytes) (x sep : Bytes) : Lib.join (l ++ [x]) sep = if l = [] then x else Lib.join l sep ++ sep ++ x := by
  cases l with
  | nil => simp [Lib.join_one]
  | cons y r =>
    rw [List.cons_append, Lib.join_cons, Lib.join_cons]
    simp [Lib.joinTail]
theorem join_four (a b c d : Bytes) : joinB [a, b, c, d] [32] = a ++ [32] ++ b ++ [32] ++ c ++ [32] ++ d := by
  unfold joinB
  rw [Lib.join_cons]
  simp [Lib.joinTail]
theorem join_owes (hd : List Bytes) (hne : hd ≠ []) (o : List Bool) : ∀ j, joinB (hd ++ owesW o j) [32] = joinB hd [32] ++ owesTxt o j
  | 0 => by simp [owesW, owesTxt]
  | j + 1 => by
    have ih := join_owes hd hne o j
    rw [owesW_succ, owesTxt_succ, ← List.append_assoc]
    cases h : o.getD j false with
    | true =>
      rw [if_pos rfl, if_pos rfl]
      unfold joinB at ih ⊢
      rw [join_snoc, if_neg (by simp [hne]), ih]
      simp only [List.append_assoc]
    | false =>
      rw [if_neg (by decide), if_neg (by decide), List.append_nil, List.append_nil]
      exact ih
theorem entsTxt_take {l : List ME} {k : Nat} (hk : k < l.length) : entsTxt (l.take (k + 1)) = entsTxt (l.take k) ++ entTxt (l.getD k ME.dflt) := by
  rw [List.take_succ_eq_append_getElem hk, entsTxt_append, entsTxt_one, List.getD_eq_getElem?_getD, List.getElem?_eq_getElem hk]
  rfl
theorem MS.Inv.ent {s : MS} (h : s.Inv) : ∀ e ∈ s.all, e.id ≤ 1000000 ∧ e.stop ≤ 256 ∧ e.owed.length ≤ 4 := fun e he => by
  have h1 := h.ids e he
  have := h.next
  have h2 := h.owed e he
  have := h.cpus
  exact ⟨by omega, (h.size e he).2, by omega⟩
theorem MS.Inv.txt_len {s : MS} (h : s.Inv) (k : Nat) : (entsTxt (s.all.take k)).length ≤ 2816 := by
  have h1 := entsTxt_len (l := s.all.take k) (fun e he => h.ent e (List.mem_of_mem_take he))
  have h2 : (s.all.take k).length ≤ 16 := by have := h.few; rw [List.length_take]; omega
  have := Nat.mul_le_mul_left 176 h2
  omega
set_option maxRecDepth 100000 in
set_option maxHeartbeats 16000000 in
theorem itext_any {n : Nat} {w : World} {p : Nat} {r : SR} {s : MS} (h : IsStore n w p r s) (hT : TB w) :
    Calls Tryd.prog 20 #[.pointer (some ⟨p, 0, none⟩)] w fun e w' => e = .returned (.string (sb (textOf s.all s.inn))) ∧ Since w.heap.size w w' := by
  have HC := Lib.hid (closed_any h)
  have HTB := Lib.hid (fun (W : World) (hk : Since w.heap.size w W) => hT.since hk hT.pos)
  obtain ⟨N, hN⟩ : ∃ N, s.all.length = N := ⟨_, rfl⟩
  obtain ⟨M, hM⟩ : ∃ M, s.inn.length = M := ⟨_, rfl⟩
  have hcp := h.inv.cpus
  have hfew := h.inv.few
  rw [hN] at hfew
  rw [hM] at hcp
  obtain ⟨R, hR⟩ : ∃ R, sb (textOf s.all s.inn) = R := ⟨_, rfl⟩
  rw [hR]
  have HR := Lib.hid hR
  have HN := Lib.hid hN
  have HM := Lib.hid hM
  have H := Lib.hid h
  have hfr := BD.fresh w
  have hka : Since w.heap.size w (w.alloc (.cells #[.pointer none, .slice none 0 0] 92)) := Since.of ((Keep.refl (fun _ => False) w).alloc' _)
  obtain ⟨W0, hW⟩ : ∃ W0, w.alloc (.cells #[.pointer none, .slice none 0 0] 92) = W0 := ⟨_, rfl⟩
  obtain ⟨b, hb⟩ : ∃ b, w.heap.size = b := ⟨_, rfl⟩
  have HE := Lib.hid (And.intro hW hb)
  rw [hW] at hfr hka
  rw [hb] at hfr hka HTB ⊢
  have V0 := Lib.hid (show BD b b (entsTxt (s.all.take 0)) W0 ∧ Since b w W0 from ⟨hfr, hka⟩)
  have HAS := Lib.hid (fun (x y : Bytes) (W : World) (h : x.length + y.length ≤ 1000000) => addS x y W h)
  have HSI := Lib.hid (fun (W : World) (hk : Since b w W) => h.since (hb ▸ hk))
  clear h hN hM hR hT hfr hka hW hb
  go_enter Tryd.func20, Tryd.ntmps20
  go_wp2_with fail
  ((with_reducible refine HC.out.mono ?_); rintro ee w' ⟨rfl, rfl⟩)
  clear HC
  go_upto_region 4 with (fail)
  rw [HE.out.1]
  try rw [HE.out.2]
  have c2 := (HSI.out _ V0.out.2).c2
  rw [HN.out] at c2
  go_wp2_with fail
  clear c2
  go_loopw [18] (fun i wr => ∃ k : Nat, k ≤ N ∧ i = .int .i64 (k : Int) ∧ Hid (BD b b (entsTxt (s.all.take k)) wr ∧ Since b w wr)) (fun i _ => N + 1 - (RowKit.intOf i).toNat)
  case atStart => exact ⟨0, Nat.zero_le _, rfl, V0⟩
  case round =>
    obtain ⟨k, hk, rfl, VV⟩ := hrel
    obtain ⟨wo, rfl⟩ : ∃ wo : World, wo = wr := ⟨_, rfl⟩
    clear V0
    have HS := Lib.hid (HSI.out wo VV.out.2)
    have hbs := VV.out.2.size
    have hbW : b ≤ w.heap.size := by rw [HE.out.2]; exact Nat.le_refl _
    by_cases hlt : k < N
    · have hbk : decide (k < N) = true := by simpa using hlt
      have hkN : k < s.all.length := by rw [HN.out]; exact hlt
      obtain ⟨g, hg, hp⟩ := HS.out.ptr hkN
      have e0 := HS.out.ecell hkN 0
      have e1 := HS.out.ecell hkN 1
      have e4 := HS.out.ecell hkN 4
      have e11 := HS.out.ecell hkN 11
      have e12 := HS.out.ecell hkN 12
      have hol := HS.out.inv.owed _ (getD_mem (x := ME.dflt) hkN)
      rw [HM.out] at hol
      have hsz := HS.out.inv.ent _ (getD_mem (x := ME.dflt) hkN)
      have hsc := entsTxt_take hkN
      obtain ⟨eb, heb⟩ : ∃ eb, r.es.getD k 0 = eb := ⟨_, rfl⟩
      obtain ⟨e, he⟩ : ∃ e, s.all.getD k ME.dflt = e := ⟨_, rfl⟩
      obtain ⟨o, ho⟩ : ∃ o, r.os.getD k 0 = o := ⟨_, rfl⟩
      have HLK := Lib.hid (fun (W : World) (hk2 : Since b w W) (j : Nat) (hj : j ≤ 4) => ((HSI.out W hk2).ents k hkN).2.look (t := 71) Tryd.underlying3 Tryd.underlying71 Tryd.underlying4 (by kernel_rfl) (i := (j : Int)) (wf64 (by omega)))
      rw [he] at e0 e1 e4 e11 e12 hol hsz hsc HLK
      rw [heb] at e0 e1 e4 e11 e12 hp
      rw [ho] at e12 HLK
      replace e0 : wo.cell? ⟨eb, 0, none⟩ = some (.int .i64 (e.id : Int)) := e0.trans rfl
      replace e1 : wo.cell? ⟨eb, 1, none⟩ = some (.int .i64 ((16 * e.a : Nat) : Int)) := e1.trans rfl
      replace e4 : wo.cell? ⟨eb, 4, none⟩ = some (.string (sb e.bytes)) := e4.trans rfl
      replace e11 : wo.cell? ⟨eb, 11, none⟩ = some (.bool e.dropped) := e11.trans rfl
      replace e12 : wo.cell? ⟨eb, 12, none⟩ = some (.map (some o)) := e12.trans rfl
      rw [hg]
      have hun := hsz.2.1
      unfold ME.stop lns at hun
      have hie : e.id ≤ 1000000 := hsz.1
      have hent : entTxt e = joinB ([itoa (e.id : Int), itoa ((16 * e.a : Nat) : Int), itoa (e.bytes.length : Int), itoa (dNum e.dropped)] ++ owesW e.owed M) [32] ++ [10] := by
        rw [join_owes _ (by simp), join_four]
        unfold entTxt headTxt
        rw [hol]
      have hjl : (joinB ([itoa (e.id : Int), itoa ((16 * e.a : Nat) : Int), itoa (e.bytes.length : Int), itoa (dNum e.dropped)] ++ owesW e.owed M) [32]).length ≤ 176 := by
        have h1 := entTxt_len hsz.1 hsz.2.1 hsz.2.2
        rw [hent, List.length_append] at h1
        omega
      rw [hent] at hsc
      have hdn : dNum e.dropped = 0 ∨ dNum e.dropped = 1 := by unfold dNum; split <;> simp
      have D0 := Lib.hid (fun W hk => itoa_any (e.id : Int) (by omega) (HTB.out W hk))
      have D1 := Lib.hid (fun W hk => itoa_any ((16 * e.a : Nat) : Int) (by omega) (HTB.out W hk))
      have D2 := Lib.hid (fun W hk => itoa_any (e.bytes.length : Int) (by omega) (HTB.out W hk))
      have D3 := Lib.hid (fun W hk => itoa_any (dNum e.dropped) (by omega) (HTB.out W hk))
      obtain ⟨I0, hI0⟩ : ∃ x, itoa (e.id : Int) = x := ⟨_, rfl⟩
      obtain ⟨I1, hI1⟩ : ∃ x, itoa ((16 * e.a : Nat) : Int) = x := ⟨_, rfl⟩
      obtain ⟨I2, hI2⟩ : ∃ x, itoa (e.bytes.length : Int) = x := ⟨_, rfl⟩
      obtain ⟨I3, hI3⟩ : ∃ x, itoa (dNum e.dropped) = x := ⟨_, rfl⟩
      rw [hI0] at D0
      rw [hI1] at D1
      rw [hI2] at D2
      rw [hI3] at D3
      rw [hI0, hI1, hI2, hI3] at hsc hjl
      obtain ⟨iv, hiv⟩ : ∃ iv : Int, (e.id : Int) = iv := ⟨_, rfl⟩
      obtain ⟨av, hav⟩ : ∃ av : Int, ((16 * e.a : Nat) : Int) = av := ⟨_, rfl⟩
      obtain ⟨bs, hbb⟩ : ∃ bs, sb e.bytes = bs := ⟨_, rfl⟩
      obtain ⟨L, hL⟩ : ∃ L, e.bytes.length = L := ⟨_, rfl⟩
      have hs2 : bs.size = L := by rw [← hbb, sb_size, hL]
      have hLb : L ≤ 140737488355328 := by rw [← hL]; omega
      obtain ⟨dd, hdd⟩ : ∃ dd, e.dropped = dd := ⟨_, rfl⟩
      obtain ⟨ow, how⟩ : ∃ ow, e.owed = ow := ⟨_, rfl⟩
      rw [hiv] at D0 e0
      rw [hav] at D1 e1
      rw [hL] at D2
      rw [hdd] at D3 e11
      rw [how] at HLK hsc hjl
      rw [hbb] at e4
      have E0 := Lib.hid e0
      have E1 := Lib.hid e1
      have E4 := Lib.hid e4
      have E12 := Lib.hid e12
      have c1 := HS.out.c1
      rw [HM.out] at c1
      have C1 := Lib.hid c1
      have HSC := Lib.hid hsc
      have HJL := Lib.hid hjl
      obtain ⟨n1, hn1⟩ : ∃ n1, wo.heap.size = n1 := ⟨_, rfl⟩
      have HN1 := Lib.hid hn1
      have hn1b : b ≤ n1 := by omega
      clear he heb ho hg hkN hol hsz hun hie hent hdn hI0 hI1 hI2 hI3 hiv hav hbb hL hdd how hsc hjl e0 e1 e4 e12 c1 hn1
      cases dd
      all_goals go_upto_region 10 with (fail)
      all_goals clear hp e11
      · skip
        refine wp_region_drewU (S := (fun w' => Hid (Keep (fun _ => False) wo w'))) (D := []) (by kernel_rfl) (by exact Lib.hid (keep_draw _ wo)) (fun hH => ?_)
        refine wpAnyU_take (i := 0) (v := ?_) rfl (by kernel_rfl) (by kernel_rfl) (by kernel_rfl) (by kernel_rfl) (fun _ _ _ h => h) (Or.inl ⟨by rfl, ?_⟩) hH ?_
        rotate_left
        · (intro w'' hSw; (try dsimp only at hSw); go_simp; try with_reducible rfl)
        change wpAnyU _ _ _ _ _ _ _ _ (Act.put _ (some 26) _) _
        try simp only [Act.put, List.setIfInBounds_toArray, List.set_cons_zero, List.set_cons_succ]
        refine wpAnyU_take (i := 1) (v := ?_) rfl (by kernel_rfl) (by kernel_rfl) (by kernel_rfl) (by kernel_rfl) (fun _ _ _ h => h) (Or.inl ⟨by rfl, ?_⟩) hH ?_
        rotate_left
        · (intro w'' hSw; (try dsimp only at hSw); go_simp; try with_reducible rfl)
        change wpAnyU _ _ _ _ _ _ _ _ (Act.put _ (some 27) _) _
        try simp only [Act.put, List.setIfInBounds_toArray, List.set_cons_zero, List.set_cons_succ]
        refine wpAnyU_take (i := 2) (v := ?_) rfl (by kernel_rfl) (by kernel_rfl) (by kernel_rfl) (by kernel_rfl) (fun _ _ _ h => h) (Or.inl ⟨by rfl, ?_⟩) hH ?_
        rotate_left
        · (intro w'' hSw; (try dsimp only at hSw); go_simp; try with_reducible rfl)
        change wpAnyU _ _ _ _ _ _ _ _ (Act.put _ (some 28) _) _
        try simp only [Act.put, List.setIfInBounds_toArray, List.set_cons_zero, List.set_cons_succ]
        refine wpAnyU_take (i := 3) (v := ?_) rfl (by kernel_rfl) (by kernel_rfl) (by kernel_rfl) (by kernel_rfl) (fun _ _ _ h => h) (Or.inl ⟨by rfl, ?_⟩) hH ?_
        rotate_left
        · (intro w'' hSw; have q := cell_kept hSw.out E0.out id; go_simp; try with_reducible rfl)
        change wpAnyU _ _ _ _ _ _ _ _ (Act.put _ (some 29) _) _
        try simp only [Act.put, List.setIfInBounds_toArray, List.set_cons_zero, List.set_cons_succ]
        refine wpAnyU_take (i := 5) (v := ?_) rfl (by kernel_rfl) (by kernel_rfl) (by kernel_rfl) (by kernel_rfl) (fun _ _ _ h => h) (Or.inl ⟨by rfl, ?_⟩) hH ?_
        rotate_left
        · (intro w'' hSw; (try dsimp only at hSw); go_simp; try with_reducible rfl)
        change wpAnyU _ _ _ _ _ _ _ _ (Act.put _ (some 31) _) _
        try simp only [Act.put, List.setIfInBounds_toArray, List.set_cons_zero, List.set_cons_succ]
        refine wpAnyU_take (i := 6) (v := ?_) rfl (by kernel_rfl) (by kernel_rfl) (by kernel_rfl) (by kernel_rfl) (fun _ _ _ h => h) (Or.inl ⟨by rfl, ?_⟩) hH ?_
        rotate_left
        · (intro w'' hSw; (try dsimp only at hSw); go_simp; try with_reducible rfl)
        change wpAnyU _ _ _ _ _ _ _ _ (Act.put _ (some 32) _) _
        try simp only [Act.put, List.setIfInBounds_toArray, List.set_cons_zero, List.set_cons_succ]
        refine wpAnyU_take (i := 7) (v := ?_) rfl (by kernel_rfl) (by kernel_rfl) (by kernel_rfl) (by kernel_rfl) (fun _ _ _ h => h) (Or.inl ⟨by rfl, ?_⟩) hH ?_
        rotate_left
        · (intro w'' hSw; (try dsimp only at hSw); go_simp; try with_reducible rfl)
        change wpAnyU _ _ _ _ _ _ _ _ (Act.put _ (some 33) _) _
        try simp only [Act.put, List.setIfInBounds_toArray, List.set_cons_zero, List.set_cons_succ]
        refine wpAnyU_take (i := 8) (v := ?_) rfl (by kernel_rfl) (by kernel_rfl) (by kernel_rfl) (by kernel_rfl) (fun _ _ _ h => h) (Or.inl ⟨by rfl, ?_⟩) hH ?_
        rotate_left
        · (intro w'' hSw; have q := cell_kept hSw.out E1.out id; go_simp; try with_reducible rfl)
        change wpAnyU _ _ _ _ _ _ _ _ (Act.put _ (some 34) _) _
        try simp only [Act.put, List.setIfInBounds_toArray, List.set_cons_zero, List.set_cons_succ]
        refine wpAnyU_take (i := 10) (v := ?_) rfl (by kernel_rfl) (by kernel_rfl) (by kernel_rfl) (by kernel_rfl) (fun _ _ _ h => h) (Or.inl ⟨by rfl, ?_⟩) hH ?_
        rotate_left
        · (intro w'' hSw; (try dsimp only at hSw); go_simp; try with_reducible rfl)
        change wpAnyU _ _ _ _ _ _ _ _ (Act.put _ (some 36) _) _
        try simp only [Act.put, List.setIfInBounds_toArray, List.set_cons_zero, List.set_cons_succ]
        refine wpAnyU_take (i := 11) (v := ?_) rfl (by kernel_rfl) (by kernel_rfl) (by kernel_rfl) (by kernel_rfl) (fun _ _ _ h => h) (Or.inl ⟨by rfl, ?_⟩) hH ?_
        rotate_left
        · (intro w'' hSw; (try dsimp only at hSw); go_simp; try with_reducible rfl)
        change wpAnyU _ _ _ _ _ _ _ _ (Act.put _ (some 37) _) _
        try simp only [Act.put, List.setIfInBounds_toArray, List.set_cons_zero, List.set_cons_succ]
        refine wpAnyU_take (i := 12) (v := ?_) rfl (by kernel_rfl) (by kernel_rfl) (by kernel_rfl) (by kernel_rfl) (fun _ _ _ h => h) (Or.inl ⟨by rfl, ?_⟩) hH ?_
        rotate_left
        · (intro w'' hSw; (try dsimp only at hSw); go_simp; try with_reducible rfl)
        change wpAnyU _ _ _ _ _ _ _ _ (Act.put _ (some 38) _) _
        try simp only [Act.put, List.setIfInBounds_toArray, List.set_cons_zero, List.set_cons_succ]
        refine wpAnyU_take (i := 13) (v := ?_) rfl (by kernel_rfl) (by kernel_rfl) (by kernel_rfl) (by kernel_rfl) (fun _ _ _ h => h) (Or.inl ⟨by rfl, ?_⟩) hH ?_
        rotate_left
        · (intro w'' hSw; (try dsimp only at hSw); go_simp; try with_reducible rfl)
        change wpAnyU _ _ _ _ _ _ _ _ (Act.put _ (some 39) _) _
        try simp only [Act.put, List.setIfInBounds_toArray, List.set_cons_zero, List.set_cons_succ]
        refine wpAnyU_take (i := 14) (v := ?_) rfl (by kernel_rfl) (by kernel_rfl) (by kernel_rfl) (by kernel_rfl) (fun _ _ _ h => h) (Or.inl ⟨by rfl, ?_⟩) hH ?_
        rotate_left
        · (intro w'' hSw; have q := cell_kept hSw.out E4.out id; go_simp; try with_reducible rfl)
        change wpAnyU _ _ _ _ _ _ _ _ (Act.put _ (some 40) _) _
        try simp only [Act.put, List.setIfInBounds_toArray, List.set_cons_zero, List.set_cons_succ]
        refine wpAnyU_take (i := 15) (v := ?_) rfl (by kernel_rfl) (by kernel_rfl) (by kernel_rfl) (by kernel_rfl) (fun _ _ _ h => h) (Or.inl ⟨by rfl, ?_⟩) hH ?_
        rotate_left
        · (intro w'' hSw; (try dsimp only at hSw); go_simp; try with_reducible rfl)
        change wpAnyU _ _ _ _ _ _ _ _ (Act.put _ (some 41) _) _
        try simp only [Act.put, List.setIfInBounds_toArray, List.set_cons_zero, List.set_cons_succ]
        refine wpAnyU_take (i := 17) (v := ?_) rfl (by kernel_rfl) (by kernel_rfl) (by kernel_rfl) (by kernel_rfl) (fun _ _ _ h => h) (Or.inl ⟨by rfl, ?_⟩) hH ?_
        rotate_left
        · (intro w'' hSw; (try dsimp only at hSw); go_simp; try with_reducible rfl)
        change wpAnyU _ _ _ _ _ _ _ _ (Act.put _ (some 43) _) _
        try simp only [Act.put, List.setIfInBounds_toArray, List.set_cons_zero, List.set_cons_succ]
        refine wpAnyU_ready (rs := [4]) (by kernel_rfl) (by simp) ?_
        refine AllReadyU.cons rfl (fun Kn hKn => ?_) AllReadyU.nil
        go_simp
        go_at_call 40
        (refine (show Calls Tryd.prog _ #[.int .i64 iv] _ _ from D0.out _ (Keep.trans VV.out.2 (Since.of hH.out))).mono ?_)
        rintro ee w2 ⟨rfl, hk2⟩
        refine hKn.out _ _ ?_ (fun hH => ?_)
        · (exact Lib.hid (Keep.trans hH.out hk2))
        clear hKn Kn
        try simp only [Act.put, List.setIfInBounds_toArray, List.set_cons_zero, List.set_cons_succ]
        refine wpAnyU_ready (rs := [9]) (by kernel_rfl) (by simp) ?_
        refine AllReadyU.cons rfl (fun Kn hKn => ?_) AllReadyU.nil
        go_simp
        go_at_call 40
        (refine (show Calls Tryd.prog _ #[.int .i64 av] _ _ from D1.out _ (Keep.trans VV.out.2 (Since.of hH.out))).mono ?_)
        rintro ee w2 ⟨rfl, hk2⟩
        refine hKn.out _ _ ?_ (fun hH => ?_)
        · (exact Lib.hid (Keep.trans hH.out hk2))
        clear hKn Kn
        try simp only [Act.put, List.setIfInBounds_toArray, List.set_cons_zero, List.set_cons_succ]
        refine wpAnyU_ready (rs := [16]) (by kernel_rfl) (by simp) ?_
        refine AllReadyU.cons rfl (fun Kn hKn => ?_) AllReadyU.nil
        go_simp
        go_at_call 40
        (refine (show Calls Tryd.prog _ #[.int .i64 (L : Int)] _ _ from D2.out _ (Keep.trans VV.out.2 (Since.of hH.out))).mono ?_)
        rintro ee w2 ⟨rfl, hk2⟩
        refine hKn.out _ _ ?_ (fun hH => ?_)
        · (exact Lib.hid (Keep.trans hH.out hk2))
        clear hKn Kn
        try simp only [Act.put, List.setIfInBounds_toArray, List.set_cons_zero, List.set_cons_succ]
        refine wpAnyU_ready (rs := [18]) (by kernel_rfl) (by simp) ?_
        refine AllReadyU.cons rfl (fun Kn hKn => ?_) AllReadyU.nil
        go_simp
        go_at_call 40
        (refine (show Calls Tryd.prog _ #[.int .i64 0] _ _ from D3.out _ (Keep.trans VV.out.2 (Since.of hH.out))).mono ?_)
        rintro ee w2 ⟨rfl, hk2⟩
        refine hKn.out _ _ ?_ (fun hH => ?_)
        · (exact Lib.hid (Keep.trans hH.out hk2))
        clear hKn Kn
        try simp only [Act.put, List.setIfInBounds_toArray, List.set_cons_zero, List.set_cons_succ]
        have hk2' := hH.out
        refine wpAnyU_ready (rs := [19]) (by kernel_rfl) (by simp) ?_
        refine AllReadyU.cons rfl (fun Kn hKn => ?_) AllReadyU.nil
        go_simp
        refine hKn.out _ _ ?_ (fun hH => ?_)
        · (exact Lib.hid (hH.out.alloc' _))
        clear hKn Kn
        try simp only [Act.put, List.setIfInBounds_toArray, List.set_cons_zero, List.set_cons_succ]
        refine wpAnyU_take (i := 20) (v := ?_) rfl (by kernel_rfl) (by kernel_rfl) (by kernel_rfl) (by kernel_rfl) (fun _ _ _ h => h) (Or.inl ⟨by rfl, ?_⟩) hH ?_
        rotate_left
        · (intro w'' hSw; (try dsimp only at hSw); go_simp; try with_reducible rfl)
        change wpAnyU _ _ _ _ _ _ _ _ (Act.put _ (some 7) _) _
        try simp only [Act.put, List.setIfInBounds_toArray, List.set_cons_zero, List.set_cons_succ]
        refine wpAnyU_done (by kernel_rfl) ?_ _
        have d1 := cell_kept hH.out C1.out id
        have hks : Since n1 wo (w2.alloc (.cells #[.string (sb I0), .string (sb I1), .string (sb I2), .string (sb I3)] 9)) := Since.of hH.out
        have hws : n1 ≤ w2.heap.size := by have := hH.out.size; rw [HN1.out] at this; simp at this; have h2 := hk2'.size; rw [HN1.out] at h2; exact h2
        have P0 := Lib.hid (show (w2.alloc (.cells #[.string (sb I0), .string (sb I1), .string (sb I2), .string (sb I3)] 9)).ownsRow n1 9 1 (.slice (some ⟨w2.heap.size, 0, none⟩) 4 4) 4 (strs ([I0, I1, I2, I3] ++ owesW ow 0)) ∧ Since n1 wo (w2.alloc (.cells #[.string (sb I0), .string (sb I1), .string (sb I2), .string (sb I3)] 9)) from ⟨own_new w2 9 #[.string (sb I0), .string (sb I1), .string (sb I2), .string (sb I3)] 4 n1 rfl (by omega) hws, hks⟩)
        clear hks hws
        go_wp2_with fail
        clear d1
        go_loopw [7, 51] (fun v i wr => ∃ (j m : Nat) (A : Option Addr) (cc : Nat), j ≤ M ∧ m ≤ 4 + j ∧ i = .int .i64 (j : Int) ∧ v = .slice A m cc ∧ Hid (wr.ownsRow n1 9 1 (.slice A m cc) m (strs ([I0, I1, I2, I3] ++ owesW ow j)) ∧ Since n1 wo wr)) (fun _ i _ => M + 1 - (RowKit.intOf i).toNat)
        case atStart => exact ⟨0, 4, _, _, Nat.zero_le _, by omega, rfl, rfl, P0⟩
        case round =>
          obtain ⟨j, m, A, cc, hj, hm, rfl, rfl, PP⟩ := hrel
          obtain ⟨wx, rfl⟩ : ∃ wx : World, wx = wr := ⟨_, rfl⟩
          clear P0
          have KW := Lib.hid (Keep.trans VV.out.2 (Since.mono PP.out.2 hn1b))
          have hxs := PP.out.2.size
          rw [HN1.out] at hxs
          by_cases hlt2 : j < M
          · have hb2 : decide (j < M) = true := by simpa using hlt2
            have d12 := (HSI.out wx KW.out).ecell (show k < s.all.length by rw [HN.out]; exact hlt) 12
            have d12' : wx.cell? ⟨eb, 12, none⟩ = some (.map (some o)) := by
              have hk0 := PP.out.2
              exact cell_kept hk0 E12.out (by have := World.block_lt_of_cell? _ _ E12.out; rw [HN1.out] at this; simp only at this ⊢; omega)
            have hlk := HLK.out wx KW.out j (by omega)
            rw [owedS_nat] at hlk
            have hsu := owesW_succ ow j
            cases hx : ow.getD j false with
            | true =>
              rw [hx] at hlk hsu
              have HDC := Lib.hid (itoa_any (j : Int) (by omega) (HTB.out wx KW.out))
              obtain ⟨I, hI⟩ : ∃ x, itoa (j : Int) = x := ⟨_, rfl⟩
              rw [hI] at HDC hsu
              have HSU := Lib.hid (show owesW ow (j + 1) = owesW ow j ++ [I] by rw [hsu, if_pos rfl])
              clear hsu hx hI d12
              go_wp2_with fail
              ((with_reducible refine HDC.out.mono ?_); rintro ee w3 ⟨rfl, hk3⟩)
              have HO3 := Lib.hid (hk3.own PP.out.1 (fun _ _ => id))
              have HK3 := Lib.hid (Keep.trans PP.out.2 (Since.of hk3))
              have h3s := hk3.size
              clear hk3 d12' hlk
              go_wp2_with (at_builtin; refine wpList_append_src 51 9 (.string ⟨#[]⟩) 16 n1 Tryd.strsTy _ _ rfl rfl (.slice A m cc) m (strs ([I0, I1, I2, I3] ++ owesW ow j)) rfl (by exact HO3.out.alloc _) _ 1 1 (strs [I]) rfl (by intro h; cases h) (cells_new _ _ _) (strs_one _) (by omega) (by decide) (by simp; omega) ?_)
              intro v' w4 hown hgrow hnil hob
              obtain ⟨A', c', rfl⟩ := own_slice hown
              rw [strs_snoc] at hown
              have hown2 : w4.ownsRow n1 9 1 (.slice A' (m + 1) c') (m + 1) (strs ([I0, I1, I2, I3] ++ owesW ow (j + 1))) := by rw [HSU.out, ← List.append_assoc]; exact hown
              have PN := Lib.hid (And.intro hown2 (Keep.trans HK3.out (Keep.trans (Since.of ((Keep.refl (fun _ => False) w3).alloc' _)) (Keep.mono (own_keep' hgrow) (fun i e => own_low HO3.out e)))))
              clear hown hown2 hgrow hnil hob
              go_wp2_with fail
              exact ⟨⟨j + 1, m + 1, A', c', by omega, by omega, by go_num, by go_num, PN⟩, by simp [RowKit.intOf]; omega⟩
            | false =>
              rw [hx] at hlk hsu
              have PN := Lib.hid (show wx.ownsRow n1 9 1 (.slice A m cc) m (strs ([I0, I1, I2, I3] ++ owesW ow (j + 1))) ∧ Since n1 wo wx by rw [hsu, if_neg (by decide), List.append_nil]; exact PP.out)
              clear hsu hx d12
              go_wp2_with fail
              exact ⟨⟨j + 1, m, A, cc, by omega, by omega, by go_num, rfl, PN⟩, by simp [RowKit.intOf]; omega⟩
          · have hb2 : decide (j < M) = false := by simpa using hlt2
            obtain rfl : j = M := by omega
            obtain ⟨hcap, hcells⟩ := own_cap PP.out.1
            have HJ := Lib.hid (join_any hcells hcap [32] (by omega) (by have := HJL.out; omega))
            obtain ⟨x, hx⟩ : ∃ x, joinB ([I0, I1, I2, I3] ++ owesW ow j) [32] = x := ⟨_, rfl⟩
            rw [hx] at HJ
            have hxl := HJL.out
            rw [hx] at hxl
            obtain ⟨y, hy⟩ : ∃ y, x ++ [10] = y := ⟨_, rfl⟩
            have hyl : y.length ≤ 177 := by rw [← hy]; simp only [List.length_append, List.length_cons, List.length_nil]; omega
            have hadd : ∀ W : World, (Op.stringOp .add (sb x) ⟨#[10]⟩).run Tryd.prog W = .ok (.string (sb y)) W := fun W => by rw [← hy]; exact HAS.out x [10] W (by simp only [List.length_cons, List.length_nil]; omega)
            have HSD := Lib.hid (show entsTxt (s.all.take (k + 1)) = entsTxt (s.all.take k) ++ y by rw [HSC.out, hx, hy])
            clear hx hy hcap hcells
            go_wp2_with fail
            ((refine (show Calls Tryd.prog _ #[_, .string ⟨#[32]⟩] wx _ from HJ.out).mono ?_); rintro ee w3 ⟨rfl, hk3⟩)
            have hk03 := Keep.trans PP.out.2 (Since.of hk3)
            have hbd := VV.out.1.since (by rw [HN1.out]; exact hk03)
            have htl := HS.out.inv.txt_len k
            have HW3 := Lib.hid (bwrite_any b b _ y w3 hbd (by omega) (by have := hk3.size; omega))
            have HK3 := Lib.hid (Keep.trans KW.out (Since.of hk3))
            clear hk3 hk03 hbd htl
            go_wp2_with fail
            ((with_reducible refine HW3.out.mono ?_); rintro ee w4 ⟨rfl, hbd4, hk4⟩)
            have VN := Lib.hid (show BD b b (entsTxt (s.all.take (k + 1))) w4 ∧ Since b w w4 from ⟨by rw [HSD.out]; exact hbd4, Keep.trans HK3.out hk4⟩)
            clear hbd4 hk4 hadd
            go_wp2_with fail
            exact ⟨⟨k + 1, by omega, by go_num, VN⟩, by simp [RowKit.intOf]; omega⟩
      · skip
        refine wp_region_drewU (S := (fun w' => Hid (Keep (fun _ => False) wo w'))) (D := []) (by kernel_rfl) (by exact Lib.hid (keep_draw _ wo)) (fun hH => ?_)
        refine wpAnyU_take (i := 0) (v := ?_) rfl (by kernel_rfl) (by kernel_rfl) (by kernel_rfl) (by kernel_rfl) (fun _ _ _ h => h) (Or.inl ⟨by rfl, ?_⟩) hH ?_
        rotate_left
        · (intro w'' hSw; (try dsimp only at hSw); go_simp; try with_reducible rfl)
        change wpAnyU _ _ _ _ _ _ _ _ (Act.put _ (some 26) _) _
        try simp only [Act.put, List.setIfInBounds_toArray, List.set_cons_zero, List.set_cons_succ]
        refine wpAnyU_take (i := 1) (v := ?_) rfl (by kernel_rfl) (by kernel_rfl) (by kernel_rfl) (by kernel_rfl) (fun _ _ _ h => h) (Or.inl ⟨by rfl, ?_⟩) hH ?_
        rotate_left
        · (intro w'' hSw; (try dsimp only at hSw); go_simp; try with_reducible rfl)
        change wpAnyU _ _ _ _ _ _ _ _ (Act.put _ (some 27) _) _
        try simp only [Act.put, List.setIfInBounds_toArray, List.set_cons_zero, List.set_cons_succ]
        refine wpAnyU_take (i := 2) (v := ?_) rfl (by kernel_rfl) (by kernel_rfl) (by kernel_rfl) (by kernel_rfl) (fun _ _ _ h => h) (Or.inl ⟨by rfl, ?_⟩) hH ?_
        rotate_left
        · (intro w'' hSw; (try dsimp only at hSw); go_simp; try with_reducible rfl)
        change wpAnyU _ _ _ _ _ _ _ _ (Act.put _ (some 28) _) _
        try simp only [Act.put, List.setIfInBounds_toArray, List.set_cons_zero, List.set_cons_succ]
        refine wpAnyU_take (i := 3) (v := ?_) rfl (by kernel_rfl) (by kernel_rfl) (by kernel_rfl) (by kernel_rfl) (fun _ _ _ h => h) (Or.inl ⟨by rfl, ?_⟩) hH ?_
        rotate_left
        · (intro w'' hSw; have q := cell_kept hSw.out E0.out id; go_simp; try with_reducible rfl)
        change wpAnyU _ _ _ _ _ _ _ _ (Act.put _ (some 29) _) _
        try simp only [Act.put, List.setIfInBounds_toArray, List.set_cons_zero, List.set_cons_succ]
        refine wpAnyU_take (i := 5) (v := ?_) rfl (by kernel_rfl) (by kernel_rfl) (by kernel_rfl) (by kernel_rfl) (fun _ _ _ h => h) (Or.inl ⟨by rfl, ?_⟩) hH ?_
        rotate_left
        · (intro w'' hSw; (try dsimp only at hSw); go_simp; try with_reducible rfl)
        change wpAnyU _ _ _ _ _ _ _ _ (Act.put _ (some 31) _) _
        try simp only [Act.put, List.setIfInBounds_toArray, List.set_cons_zero, List.set_cons_succ]
        refine wpAnyU_take (i := 6) (v := ?_) rfl (by kernel_rfl) (by kernel_rfl) (by kernel_rfl) (by kernel_rfl) (fun _ _ _ h => h) (Or.inl ⟨by rfl, ?_⟩) hH ?_
        rotate_left
        · (intro w'' hSw; (try dsimp only at hSw); go_simp; try with_reducible rfl)
        change wpAnyU _ _ _ _ _ _ _ _ (Act.put _ (some 32) _) _
        try simp only [Act.put, List.setIfInBounds_toArray, List.set_cons_zero, List.set_cons_succ]
        refine wpAnyU_take (i := 7) (v := ?_) rfl (by kernel_rfl) (by kernel_rfl) (by kernel_rfl) (by kernel_rfl) (fun _ _ _ h => h) (Or.inl ⟨by rfl, ?_⟩) hH ?_
        rotate_left
        · (intro w'' hSw; (try dsimp only at hSw); go_simp; try with_reducible rfl)
        change wpAnyU _ _ _ _ _ _ _ _ (Act.put _ (some 33) _) _
        try simp only [Act.put, List.setIfInBounds_toArray, List.set_cons_zero, List.set_cons_succ]
        refine wpAnyU_take (i := 8) (v := ?_) rfl (by kernel_rfl) (by kernel_rfl) (by kernel_rfl) (by kernel_rfl) (fun _ _ _ h => h) (Or.inl ⟨by rfl, ?_⟩) hH ?_
        rotate_left
        · (intro w'' hSw; have q := cell_kept hSw.out E1.out id; go_simp; try with_reducible rfl)
        change wpAnyU _ _ _ _ _ _ _ _ (Act.put _ (some 34) _) _
        try simp only [Act.put, List.setIfInBounds_toArray, List.set_cons_zero, List.set_cons_succ]
        refine wpAnyU_take (i := 10) (v := ?_) rfl (by kernel_rfl) (by kernel_rfl) (by kernel_rfl) (by kernel_rfl) (fun _ _ _ h => h) (Or.inl ⟨by rfl, ?_⟩) hH ?_
        rotate_left
        · (intro w'' hSw; (try dsimp only at hSw); go_simp; try with_reducible rfl)
        change wpAnyU _ _ _ _ _ _ _ _ (Act.put _ (some 36) _) _
        try simp only [Act.put, List.setIfInBounds_toArray, List.set_cons_zero, List.set_cons_succ]
        refine wpAnyU_take (i := 11) (v := ?_) rfl (by kernel_rfl) (by kernel_rfl) (by kernel_rfl) (by kernel_rfl) (fun _ _ _ h => h) (Or.inl ⟨by rfl, ?_⟩) hH ?_
        rotate_left
        · (intro w'' hSw; (try dsimp only at hSw); go_simp; try with_reducible rfl)
        change wpAnyU _ _ _ _ _ _ _ _ (Act.put _ (some 37) _) _
        try simp only [Act.put, List.setIfInBounds_toArray, List.set_cons_zero, List.set_cons_succ]
        refine wpAnyU_take (i := 12) (v := ?_) rfl (by kernel_rfl) (by kernel_rfl) (by kernel_rfl) (by kernel_rfl) (fun _ _ _ h => h) (Or.inl ⟨by rfl, ?_⟩) hH ?_
        rotate_left
        · (intro w'' hSw; (try dsimp only at hSw); go_simp; try with_reducible rfl)
        change wpAnyU _ _ _ _ _ _ _ _ (Act.put _ (some 38) _) _
        try simp only [Act.put, List.setIfInBounds_toArray, List.set_cons_zero, List.set_cons_succ]
        refine wpAnyU_take (i := 13) (v := ?_) rfl (by kernel_rfl) (by kernel_rfl) (by kernel_rfl) (by kernel_rfl) (fun _ _ _ h => h) (Or.inl ⟨by rfl, ?_⟩) hH ?_
        rotate_left
        · (intro w'' hSw; (try dsimp only at hSw); go_simp; try with_reducible rfl)
        change wpAnyU _ _ _ _ _ _ _ _ (Act.put _ (some 39) _) _
        try simp only [Act.put, List.setIfInBounds_toArray, List.set_cons_zero, List.set_cons_succ]
        refine wpAnyU_take (i := 14) (v := ?_) rfl (by kernel_rfl) (by kernel_rfl) (by kernel_rfl) (by kernel_rfl) (fun _ _ _ h => h) (Or.inl ⟨by rfl, ?_⟩) hH ?_
        rotate_left
        · (intro w'' hSw; have q := cell_kept hSw.out E4.out id; go_simp; try with_reducible rfl)
        change wpAnyU _ _ _ _ _ _ _ _ (Act.put _ (some 40) _) _
        try simp only [Act.put, List.setIfInBounds_toArray, List.set_cons_zero, List.set_cons_succ]
        refine wpAnyU_take (i := 15) (v := ?_) rfl (by kernel_rfl) (by kernel_rfl) (by kernel_rfl) (by kernel_rfl) (fun _ _ _ h => h) (Or.inl ⟨by rfl, ?_⟩) hH ?_
        rotate_left
        · (intro w'' hSw; (try dsimp only at hSw); go_simp; try with_reducible rfl)
        change wpAnyU _ _ _ _ _ _ _ _ (Act.put _ (some 41) _) _
        try simp only [Act.put, List.setIfInBounds_toArray, List.set_cons_zero, List.set_cons_succ]
        refine wpAnyU_take (i := 17) (v := ?_) rfl (by kernel_rfl) (by kernel_rfl) (by kernel_rfl) (by kernel_rfl) (fun _ _ _ h => h) (Or.inl ⟨by rfl, ?_⟩) hH ?_
        rotate_left
        · (intro w'' hSw; (try dsimp only at hSw); go_simp; try with_reducible rfl)
        change wpAnyU _ _ _ _ _ _ _ _ (Act.put _ (some 43) _) _
        try simp only [Act.put, List.setIfInBounds_toArray, List.set_cons_zero, List.set_cons_succ]
        refine wpAnyU_ready (rs := [4]) (by kernel_rfl) (by simp) ?_
        refine AllReadyU.cons rfl (fun Kn hKn => ?_) AllReadyU.nil
        go_simp
        go_at_call 40
        (refine (show Calls Tryd.prog _ #[.int .i64 iv] _ _ from D0.out _ (Keep.trans VV.out.2 (Since.of hH.out))).mono ?_)
        rintro ee w2 ⟨rfl, hk2⟩
        refine hKn.out _ _ ?_ (fun hH => ?_)
        · (exact Lib.hid (Keep.trans hH.out hk2))
        clear hKn Kn
        try simp only [Act.put, List.setIfInBounds_toArray, List.set_cons_zero, List.set_cons_succ]
        refine wpAnyU_ready (rs := [9]) (by kernel_rfl) (by simp) ?_
        refine AllReadyU.cons rfl (fun Kn hKn => ?_) AllReadyU.nil
        go_simp
        go_at_call 40
        (refine (show Calls Tryd.prog _ #[.int .i64 av] _ _ from D1.out _ (Keep.trans VV.out.2 (Since.of hH.out))).mono ?_)
        rintro ee w2 ⟨rfl, hk2⟩
        refine hKn.out _ _ ?_ (fun hH => ?_)
        · (exact Lib.hid (Keep.trans hH.out hk2))
        clear hKn Kn
        try simp only [Act.put, List.setIfInBounds_toArray, List.set_cons_zero, List.set_cons_succ]
        refine wpAnyU_ready (rs := [16]) (by kernel_rfl) (by simp) ?_
        refine AllReadyU.cons rfl (fun Kn hKn => ?_) AllReadyU.nil
        go_simp
        go_at_call 40
        (refine (show Calls Tryd.prog _ #[.int .i64 (L : Int)] _ _ from D2.out _ (Keep.trans VV.out.2 (Since.of hH.out))).mono ?_)
        rintro ee w2 ⟨rfl, hk2⟩
        refine hKn.out _ _ ?_ (fun hH => ?_)
        · (exact Lib.hid (Keep.trans hH.out hk2))
        clear hKn Kn
        try simp only [Act.put, List.setIfInBounds_toArray, List.set_cons_zero, List.set_cons_succ]
        refine wpAnyU_ready (rs := [18]) (by kernel_rfl) (by simp) ?_
        refine AllReadyU.cons rfl (fun Kn hKn => ?_) AllReadyU.nil
        go_simp
        go_at_call 40
        (refine (show Calls Tryd.prog _ #[.int .i64 1] _ _ from D3.out _ (Keep.trans VV.out.2 (Since.of hH.out))).mono ?_)
        rintro ee w2 ⟨rfl, hk2⟩
        refine hKn.out _ _ ?_ (fun hH => ?_)
        · (exact Lib.hid (Keep.trans hH.out hk2))
        clear hKn Kn
        try simp only [Act.put, List.setIfInBounds_toArray, List.set_cons_zero, List.set_cons_succ]
        have hk2' := hH.out
        refine wpAnyU_ready (rs := [19]) (by kernel_rfl) (by simp) ?_
        refine AllReadyU.cons rfl (fun Kn hKn => ?_) AllReadyU.nil
        go_simp
        refine hKn.out _ _ ?_ (fun hH => ?_)
        · (exact Lib.hid (hH.out.alloc' _))
        clear hKn Kn
        try simp only [Act.put, List.setIfInBounds_toArray, List.set_cons_zero, List.set_cons_succ]
        refine wpAnyU_take (i := 20) (v := ?_) rfl (by kernel_rfl) (by kernel_rfl) (by kernel_rfl) (by kernel_rfl) (fun _ _ _ h => h) (Or.inl ⟨by rfl, ?_⟩) hH ?_
        rotate_left
        · (intro w'' hSw; (try dsimp only at hSw); go_simp; try with_reducible rfl)
        change wpAnyU _ _ _ _ _ _ _ _ (Act.put _ (some 7) _) _
        try simp only [Act.put, List.setIfInBounds_toArray, List.set_cons_zero, List.set_cons_succ]
        refine wpAnyU_done (by kernel_rfl) ?_ _
        have d1 := cell_kept hH.out C1.out id
        have hks : Since n1 wo (w2.alloc (.cells #[.string (sb I0), .string (sb I1), .string (sb I2), .string (sb I3)] 9)) := Since.of hH.out
        have hws : n1 ≤ w2.heap.size := by have := hH.out.size; rw [HN1.out] at this; simp at this; have h2 := hk2'.size; rw [HN1.out] at h2; exact h2
        have P0 := Lib.hid (show (w2.alloc (.cells #[.string (sb I0), .string (sb I1), .string (sb I2), .string (sb I3)] 9)).ownsRow n1 9 1 (.slice (some ⟨w2.heap.size, 0, none⟩) 4 4) 4 (strs ([I0, I1, I2, I3] ++ owesW ow 0)) ∧ Since n1 wo (w2.alloc (.cells #[.string (sb I0), .string (sb I1), .string (sb I2), .string (sb I3)] 9)) from ⟨own_new w2 9 #[.string (sb I0), .string (sb I1), .string (sb I2), .string (sb I3)] 4 n1 rfl (by omega) hws, hks⟩)
        clear hks hws
        go_wp2_with fail
        clear d1
        go_loopw [7, 51] (fun v i wr => ∃ (j m : Nat) (A : Option Addr) (cc : Nat), j ≤ M ∧ m ≤ 4 + j ∧ i = .int .i64 (j : Int) ∧ v = .slice A m cc ∧ Hid (wr.ownsRow n1 9 1 (.slice A m cc) m (strs ([I0, I1, I2, I3] ++ owesW ow j)) ∧ Since n1 wo wr)) (fun _ i _ => M + 1 - (RowKit.intOf i).toNat)
        case atStart => exact ⟨0, 4, _, _, Nat.zero_le _, by omega, rfl, rfl, P0⟩
        case round =>
          obtain ⟨j, m, A, cc, hj, hm, rfl, rfl, PP⟩ := hrel
          obtain ⟨wx, rfl⟩ : ∃ wx : World, wx = wr := ⟨_, rfl⟩
          clear P0
          have KW := Lib.hid (Keep.trans VV.out.2 (Since.mono PP.out.2 hn1b))
          have hxs := PP.out.2.size
          rw [HN1.out] at hxs
          by_cases hlt2 : j < M
          · have hb2 : decide (j < M) = true := by simpa using hlt2
            have d12 := (HSI.out wx KW.out).ecell (show k < s.all.length by rw [HN.out]; exact hlt) 12
            have d12' : wx.cell? ⟨eb, 12, none⟩ = some (.map (some o)) := by
              have hk0 := PP.out.2
              exact cell_kept hk0 E12.out (by have := World.block_lt_of_cell? _ _ E12.out; rw [HN1.out] at this; simp only at this ⊢; omega)
            have hlk := HLK.out wx KW.out j (by omega)
            rw [owedS_nat] at hlk
            have hsu := owesW_succ ow j
            cases hx : ow.getD j false with
            | true =>
              rw [hx] at hlk hsu
              have HDC := Lib.hid (itoa_any (j : Int) (by omega) (HTB.out wx KW.out))
              obtain ⟨I, hI⟩ : ∃ x, itoa (j : Int) = x := ⟨_, rfl⟩
              rw [hI] at HDC hsu
              have HSU := Lib.hid (show owesW ow (j + 1) = owesW ow j ++ [I] by rw [hsu, if_pos rfl])
              clear hsu hx hI d12
              go_wp2_with fail
              ((with_reducible refine HDC.out.mono ?_); rintro ee w3 ⟨rfl, hk3⟩)
              have HO3 := Lib.hid (hk3.own PP.out.1 (fun _ _ => id))
              have HK3 := Lib.hid (Keep.trans PP.out.2 (Since.of hk3))
              have h3s := hk3.size
              clear hk3 d12' hlk
              go_wp2_with (at_builtin; refine wpList_append_src 51 9 (.string ⟨#[]⟩) 16 n1 Tryd.strsTy _ _ rfl rfl (.slice A m cc) m (strs ([I0, I1, I2, I3] ++ owesW ow j)) rfl (by exact HO3.out.alloc _) _ 1 1 (strs [I]) rfl (by intro h; cases h) (cells_new _ _ _) (strs_one _) (by omega) (by decide) (by simp; omega) ?_)
              intro v' w4 hown hgrow hnil hob
              obtain ⟨A', c', rfl⟩ := own_slice hown
              rw [strs_snoc] at hown
              have hown2 : w4.ownsRow n1 9 1 (.slice A' (m + 1) c') (m + 1) (strs ([I0, I1, I2, I3] ++ owesW ow (j + 1))) := by rw [HSU.out, ← List.append_assoc]; exact hown
              have PN := Lib.hid (And.intro hown2 (Keep.trans HK3.out (Keep.trans (Since.of ((Keep.refl (fun _ => False) w3).alloc' _)) (Keep.mono (own_keep' hgrow) (fun i e => own_low HO3.out e)))))
              clear hown hown2 hgrow hnil hob
              go_wp2_with fail
              exact ⟨⟨j + 1, m + 1, A', c', by omega, by omega, by go_num, by go_num, PN⟩, by simp [RowKit.intOf]; omega⟩
            | false =>
              rw [hx] at hlk hsu
              have PN := Lib.hid (show wx.ownsRow n1 9 1 (.slice A m cc) m (strs ([I0, I1, I2, I3] ++ owesW ow (j + 1))) ∧ Since n1 wo wx by rw [hsu, if_neg (by decide), List.append_nil]; exact PP.out)
              clear hsu hx d12
              go_wp2_with fail
              exact ⟨⟨j + 1, m, A, cc, by omega, by omega, by go_num, rfl, PN⟩, by simp [RowKit.intOf]; omega⟩
          · have hb2 : decide (j < M) = false := by simpa using hlt2
            obtain rfl : j = M := by omega
            obtain ⟨hcap, hcells⟩ := own_cap PP.out.1
            have HJ := Lib.hid (join_any hcells hcap [32] (by omega) (by have := HJL.out; omega))
            obtain ⟨x, hx⟩ : ∃ x, joinB ([I0, I1, I2, I3] ++ owesW ow j) [32] = x := ⟨_, rfl⟩
            rw [hx] at HJ
            have hxl := HJL.out
            rw [hx] at hxl
            obtain ⟨y, hy⟩ : ∃ y, x ++ [10] = y := ⟨_, rfl⟩
            have hyl : y.length ≤ 177 := by rw [← hy]; simp only [List.length_append, List.length_cons, List.length_nil]; omega
            have hadd : ∀ W : World, (Op.stringOp .add (sb x) ⟨#[10]⟩).run Tryd.prog W = .ok (.string (sb y)) W := fun W => by rw [← hy]; exact HAS.out x [10] W (by simp only [List.length_cons, List.length_nil]; omega)
            have HSD := Lib.hid (show entsTxt (s.all.take (k + 1)) = entsTxt (s.all.take k) ++ y by rw [HSC.out, hx, hy])
            clear hx hy hcap hcells
            go_wp2_with fail
            ((refine (show Calls Tryd.prog _ #[_, .string ⟨#[32]⟩] wx _ from HJ.out).mono ?_); rintro ee w3 ⟨rfl, hk3⟩)
            have hk03 := Keep.trans PP.out.2 (Since.of hk3)
            have hbd := VV.out.1.since (by rw [HN1.out]; exact hk03)
            have htl := HS.out.inv.txt_len k
            have HW3 := Lib.hid (bwrite_any b b _ y w3 hbd (by omega) (by have := hk3.size; omega))
            have HK3 := Lib.hid (Keep.trans KW.out (Since.of hk3))
            clear hk3 hk03 hbd htl
            go_wp2_with fail
            ((with_reducible refine HW3.out.mono ?_); rintro ee w4 ⟨rfl, hbd4, hk4⟩)
            have VN := Lib.hid (show BD b b (entsTxt (s.all.take (k + 1))) w4 ∧ Since b w w4 from ⟨by rw [HSD.out]; exact hbd4, Keep.trans HK3.out hk4⟩)
            clear hbd4 hk4 hadd
            go_wp2_with fail
            exact ⟨⟨k + 1, by omega, by go_num, VN⟩, by simp [RowKit.intOf]; omega⟩
    · have hbk : decide (k < N) = false := by simpa using hlt
      obtain rfl : k = N := by omega
      have htl := HS.out.inv.txt_len k
      have hall : s.all.take k = s.all := List.take_of_length_le (by rw [HN.out]; exact Nat.le_refl _)
      have hbd := VV.out.1
      have hinn : ∀ v ∈ s.inn, -1 ≤ v ∧ v ≤ 1000000 := fun v hv => by have := HS.out.inv.inn v hv; have := HS.out.inv.next; omega
      have HIL := Lib.hid (fun j (hj : j ≤ M) => innTxt_len hinn j (by rw [HM.out]; exact hj))
      have HIV := Lib.hid (fun j (hj : j < M) => hinn _ (getD_mem (x := 0) (show j < s.inn.length by rw [HM.out]; exact hj)))
      obtain ⟨T, hTT⟩ : ∃ T, entsTxt (s.all.take k) = T := ⟨_, rfl⟩
      rw [hTT] at htl hbd
      have HTX := Lib.hid (show sb (T ++ [105, 110] ++ innTxt s.inn M ++ [10]) = R by rw [← HR.out, ← hTT, hall, ← HM.out]; rfl)
      have HW := Lib.hid (bwrite_any b b T [105, 110] wo hbd (by simp only [List.length_cons, List.length_nil]; omega) (by omega))
      clear hall hbd hinn hTT
      go_wp2_with fail
      ((refine (show Calls Tryd.prog _ #[_, .string ⟨#[105, 110]⟩] wo _ from HW.out).mono ?_); rintro ee wi ⟨rfl, hbd, hki⟩)
      have I0 := Lib.hid (show BD b b (T ++ [105, 110] ++ innTxt s.inn 0) wi ∧ Since b w wi from ⟨by simpa [innTxt] using hbd, Keep.trans VV.out.2 hki⟩)
      have c1 := (HSI.out _ I0.out.2).c1
      rw [HM.out] at c1
      clear hbd hki HW
      go_wp2_with fail
      clear c1
      go_loopw [77] (fun i wr => ∃ j : Nat, j ≤ M ∧ i = .int .i64 (j : Int) ∧ Hid (BD b b (T ++ [105, 110] ++ innTxt s.inn j) wr ∧ Since b w wr)) (fun i _ => M + 1 - (RowKit.intOf i).toNat)
      case atStart => exact ⟨0, Nat.zero_le _, rfl, I0⟩
      case round =>
        obtain ⟨j, hj, rfl, JJ⟩ := hrel
        obtain ⟨wx, rfl⟩ : ∃ wx : World, wx = wr := ⟨_, rfl⟩
        clear I0
        have hxs := JJ.out.2.size
        by_cases hlt2 : j < M
        · have hb2 : decide (j < M) = true := by simpa using hlt2
          have hin := (HSI.out wx JJ.out.2).inn
          have qj : wx.cell? ⟨r.ib, j, none⟩ = some (.int .i64 (s.inn.getD j 0)) := by
            rw [hin.cellAt j (by rw [HM.out]; omega)]
            simp [ints, List.getD_eq_getElem?_getD, List.getElem?_eq_getElem (show j < s.inn.length by rw [HM.out]; exact hlt2)]
          have hvb := HIV.out j hlt2
          have hsuc := innTxt_succ s.inn j
          have hil2 := HIL.out (j + 1) (by omega)
          obtain ⟨iv, hiv⟩ : ∃ iv, s.inn.getD j 0 = iv := ⟨_, rfl⟩
          rw [hiv] at qj hvb hsuc
          have HDC := Lib.hid (itoa_any iv (by omega) (HTB.out wx JJ.out.2))
          have hil := itoa_len iv (by omega)
          obtain ⟨I, hI⟩ : ∃ x, itoa iv = x := ⟨_, rfl⟩
          rw [hI] at HDC hsuc hil
          have hadd : ∀ W : World, (Op.stringOp .add ⟨#[32]⟩ (sb I)).run Tryd.prog W = .ok (.string (sb ([32] ++ I))) W := fun W => HAS.out [32] I W (by simp only [List.length_cons, List.length_nil]; omega)
          obtain ⟨y, hy⟩ : ∃ y, [32] ++ I = y := ⟨_, rfl⟩
          rw [hy] at hadd hsuc
          have HSU := Lib.hid hsuc
          have hyl : y.length ≤ 22 := by rw [← hy]; simp only [List.length_append, List.length_cons, List.length_nil]; omega
          have hi0 := HIL.out j (by omega)
          clear hin hiv hI hy hsuc
          go_wp2_with fail
          ((with_reducible refine HDC.out.mono ?_); rintro ee w3 ⟨rfl, hk3⟩)
          have hbd3 := JJ.out.1.quiet hk3
          have HW3 := Lib.hid (bwrite_any b b _ y w3 hbd3 (by simp only [List.length_append, List.length_cons, List.length_nil]; omega) (by have := hk3.size; omega))
          have HK3 := Lib.hid (Keep.trans JJ.out.2 (Since.of hk3))
          clear hk3 hbd3 qj
          go_wp2_with fail
          ((with_reducible refine HW3.out.mono ?_); rintro ee w4 ⟨rfl, hbd4, hk4⟩)
          have JN := Lib.hid (show BD b b (T ++ [105, 110] ++ innTxt s.inn (j + 1)) w4 ∧ Since b w w4 from ⟨by rw [HSU.out, ← List.append_assoc]; exact hbd4, Keep.trans HK3.out hk4⟩)
          clear hbd4 hk4 hadd
          go_wp2_with fail
          exact ⟨⟨j + 1, by omega, by go_num, JN⟩, by simp [RowKit.intOf]; omega⟩
        · have hb2 : decide (j < M) = false := by simpa using hlt2
          obtain rfl : j = M := by omega
          have hil := HIL.out j (by omega)
          have hadd : ∀ W : World, (Op.stringOp .add (sb (T ++ [105, 110] ++ innTxt s.inn j)) ⟨#[10]⟩).run Tryd.prog W = .ok (.string R) W := fun W => by
            rw [← HTX.out]
            exact HAS.out _ [10] W (by simp only [List.length_append, List.length_cons, List.length_nil]; omega)
          have HSTR := Lib.hid (JJ.out.1.str (by omega))
          obtain ⟨z, hz⟩ : ∃ z, sb (T ++ [105, 110] ++ innTxt s.inn j) = z := ⟨_, rfl⟩
          rw [hz] at hadd HSTR
          clear hz
          go_wp2_with fail
          ((with_reducible refine HSTR.out.mono ?_); rintro ee w5 ⟨rfl, hk5⟩)
          have HK5 := Lib.hid (Keep.trans JJ.out.2 hk5)
          clear hk5
          go_wp2_with fail
          go_ret
          exact ⟨rfl, HK5.out⟩
end Go.Proofs.YtnhajhejkecihaaDoor
/- Install: what a store's calls answer where they are refused; Module. -/
namespace Go.Proofs.YtnhajhejkecihaaDoor
open Go.RowKit
set_option linter.unusedVariables false
set_option linter.unusedSimpArgs false

section
variable {n : Nat} {w : World} {p : Nat} {r : SR} {s : MS}
def MS.cpu (s : MS) (c : Int) : Bool := decide (0 ≤ c) && decide (c < (s.inn.length : Int))
set_option maxRecDepth 100000 in
theorem cpu_none (h : IsStore n w p r s) (c : Int) (hc : s.cpu c = false) : Calls Tryd.prog 32 #[.pointer (some ⟨p, 0, none⟩), .int .i64 c] w fun e w' => e = .returned (.bool false) ∧ w = w' := by
  have c1 := h.c1
  unfold MS.cpu at hc
  clear h
  by_cases h0 : 0 ≤ c
  · obtain ⟨c, rfl⟩ := Int.eq_ofNat_of_zero_le h0
    have h1 : decide (c < s.inn.length) = false := by
      rw [show decide ((0 : Int) ≤ (c : Int)) = true by simp, Bool.true_and] at hc
      simpa using hc
    clear hc
    go_enter Tryd.func32, Tryd.ntmps32
    go_wp2_with fail
    go_ret
    exact ⟨rfl, rfl⟩
  · have hb : decide (c < 0) = true := by simp; omega
    clear hc
    go_enter Tryd.func32, Tryd.ntmps32
    go_wp2_with fail
    go_ret
    exact ⟨rfl, rfl⟩
set_option maxRecDepth 100000 in
theorem enter_arg (h : IsStore n w p r s) (c id : Int) (hc : s.cpu c = false) : Calls Tryd.prog 16 #[.pointer (some ⟨p, 0, none⟩), .int .i64 c, .int .i64 id] w fun e w' => e = .returned (.tuple #[.string ⟨#[]⟩, .int .i64 1]) ∧ w = w' := by
  have HC := Lib.hid (closed_any h)
  have HP := Lib.hid (cpu_none h c hc)
  clear h hc
  go_enter Tryd.func16, Tryd.ntmps16
  go_wp2_with fail
  ((with_reducible refine HC.out.mono ?_); rintro ee w' ⟨rfl, rfl⟩)
  go_wp2_with fail
  ((with_reducible refine HP.out.mono ?_); rintro ee w' ⟨rfl, rfl⟩)
  go_wp2_with fail
  go_ret2
  exact ⟨rfl, rfl⟩
set_option maxRecDepth 100000 in
set_option maxHeartbeats 1000000 in
theorem enter_busy (h : IsStore n w p r s) {c : Nat} (hc : c < s.inn.length) (id : Int) {i : Nat} (hf : s.find id = some i) (hin : 0 ≤ s.inn.getD c 0) :
    Calls Tryd.prog 16 #[.pointer (some ⟨p, 0, none⟩), .int .i64 c, .int .i64 id] w fun e w' => e = .returned (.tuple #[.string ⟨#[]⟩, .int .i64 41]) ∧ w = w' := by
  have HC := Lib.hid (closed_any h)
  have HP := Lib.hid (cpu_any h c hc)
  have HF := Lib.hid (find_any h id)
  rw [hf] at HF
  change Hid (Calls _ _ _ _ fun e w' => e = Ending.returned (Value.pointer (some ⟨r.es.getD i 0, 0, none⟩)) ∧ _) at HF
  obtain ⟨eb, heb⟩ : ∃ eb, r.es.getD i 0 = eb := ⟨_, rfl⟩
  rw [heb] at HF
  have c1 := h.c1
  have hcp := h.inv.cpus
  have qj : w.cell? ⟨r.ib, c, none⟩ = some (.int .i64 (s.inn.getD c 0)) := by
    rw [h.inn.cellAt c (by omega)]
    simp [ints, List.getD_eq_getElem?_getD, List.getElem?_eq_getElem hc]
  obtain ⟨iv, hiv⟩ : ∃ iv, s.inn.getD c 0 = iv := ⟨_, rfl⟩
  rw [hiv] at qj hin
  have hb : decide (0 ≤ iv) = true := by simpa using hin
  obtain ⟨M, hM⟩ : ∃ M, s.inn.length = M := ⟨_, rfl⟩
  rw [hM] at c1 hc hcp
  clear h hf heb hiv hM
  go_enter Tryd.func16, Tryd.ntmps16
  go_wp2_with fail
  ((with_reducible refine HC.out.mono ?_); rintro ee w' ⟨rfl, rfl⟩)
  go_wp2_with fail
  ((with_reducible refine HP.out.mono ?_); rintro ee w' ⟨rfl, rfl⟩)
  go_wp2_with fail
  ((with_reducible refine HF.out.mono ?_); rintro ee w' ⟨rfl, rfl⟩)
  go_wp2_with fail
  go_ret2
  exact ⟨rfl, rfl⟩
set_option maxRecDepth 100000 in
theorem safe_arg (h : IsStore n w p r s) (c : Int) (hc : s.cpu c = false) : Calls Tryd.prog 19 #[.pointer (some ⟨p, 0, none⟩), .int .i64 c] w fun e w' => e = .returned (.int .i64 1) ∧ w = w' := by
  have HC := Lib.hid (closed_any h)
  have HP := Lib.hid (cpu_none h c hc)
  clear h hc
  go_enter Tryd.func19, Tryd.ntmps19
  go_wp2_with fail
  ((with_reducible refine HC.out.mono ?_); rintro ee w' ⟨rfl, rfl⟩)
  go_wp2_with fail
  ((with_reducible refine HP.out.mono ?_); rintro ee w' ⟨rfl, rfl⟩)
  go_wp2_with fail
  go_ret
  exact ⟨rfl, rfl⟩
set_option maxRecDepth 100000 in
theorem leave_arg (h : IsStore n w p r s) (c : Int) (hc : s.cpu c = false) : Calls Tryd.prog 17 #[.pointer (some ⟨p, 0, none⟩), .int .i64 c] w fun e w' => e = .returned (.int .i64 1) ∧ w = w' := by
  have HC := Lib.hid (closed_any h)
  have HP := Lib.hid (cpu_none h c hc)
  clear h hc
  go_enter Tryd.func17, Tryd.ntmps17
  go_wp2_with fail
  ((with_reducible refine HC.out.mono ?_); rintro ee w' ⟨rfl, rfl⟩)
  go_wp2_with fail
  ((with_reducible refine HP.out.mono ?_); rintro ee w' ⟨rfl, rfl⟩)
  go_wp2_with fail
  go_ret
  exact ⟨rfl, rfl⟩
set_option maxRecDepth 100000 in
theorem leave_idle (h : IsStore n w p r s) {c : Nat} (hc : c < s.inn.length) (hin : s.inn.getD c 0 < 0) : Calls Tryd.prog 17 #[.pointer (some ⟨p, 0, none⟩), .int .i64 c] w fun e w' => e = .returned (.int .i64 1) ∧ w = w' := by
  have HC := Lib.hid (closed_any h)
  have HP := Lib.hid (cpu_any h c hc)
  have c1 := h.c1
  have hcp := h.inv.cpus
  have qj : w.cell? ⟨r.ib, c, none⟩ = some (.int .i64 (s.inn.getD c 0)) := by
    rw [h.inn.cellAt c (by omega)]
    simp [ints, List.getD_eq_getElem?_getD, List.getElem?_eq_getElem hc]
  obtain ⟨iv, hiv⟩ : ∃ iv, s.inn.getD c 0 = iv := ⟨_, rfl⟩
  rw [hiv] at qj hin
  have hb : decide (iv < 0) = true := by simpa using hin
  obtain ⟨M, hM⟩ : ∃ M, s.inn.length = M := ⟨_, rfl⟩
  rw [hM] at c1 hc hcp
  clear h hiv hM
  go_enter Tryd.func17, Tryd.ntmps17
  go_wp2_with fail
  ((with_reducible refine HC.out.mono ?_); rintro ee w' ⟨rfl, rfl⟩)
  go_wp2_with fail
  ((with_reducible refine HP.out.mono ?_); rintro ee w' ⟨rfl, rfl⟩)
  go_wp2_with fail
  go_ret
  exact ⟨rfl, rfl⟩
set_option maxRecDepth 100000 in
theorem drop_none (h : IsStore n w p r s) (id : Int) (hf : s.find id = none) : Calls Tryd.prog 22 #[.pointer (some ⟨p, 0, none⟩), .int .i64 id] w fun e w' => e = .returned (.int .i64 14) ∧ w = w' := by
  have HC := Lib.hid (closed_any h)
  have HF := Lib.hid (find_any h id)
  rw [hf] at HF
  change Hid (Calls _ _ _ _ fun e w' => e = Ending.returned (Value.pointer none) ∧ _) at HF
  clear h hf
  go_enter Tryd.func22, Tryd.ntmps22
  go_wp2_with fail
  ((with_reducible refine HC.out.mono ?_); rintro ee w' ⟨rfl, rfl⟩)
  go_wp2_with fail
  ((with_reducible refine HF.out.mono ?_); rintro ee w' ⟨rfl, rfl⟩)
  go_wp2_with fail
  go_ret
  exact ⟨rfl, rfl⟩
set_option maxRecDepth 100000 in
set_option maxHeartbeats 1000000 in
theorem add_bytes (h : IsStore n w p r s) {b : Bytes} (x : MX) (hb : b.length = 0 ∨ 4096 < b.length) (hbl : b.length ≤ 100000) :
    Calls Tryd.prog 21 #[.pointer (some ⟨p, 0, none⟩), modV b x] w fun e w' => e = .returned (.tuple #[.int .i64 0, .int .i64 33]) ∧ Keep (fun _ => False) w w' := by
  obtain ⟨x0, x1, x2, x3, x4, x5, x6, x7, hxo⟩ := x
  unfold modV mcells
  dsimp only
  clear hxo
  have hka := (Keep.refl (fun _ => False) w).alloc' (.cells #[x0, x1, .string (sb b), x2, x3, x4, x5, x6, x7] 43)
  have HC := Lib.hid (closed_any (h.quiet hka))
  have m2 : (w.alloc (.cells #[x0, x1, .string (sb b), x2, x3, x4, x5, x6, x7] 43)).cell? ⟨w.heap.size, 2, none⟩ = some (.string (sb b)) := (blk_cell (heap_alloc_new w _) 2).trans rfl
  have HK := Lib.hid hka
  obtain ⟨L, hL⟩ : ∃ L, b.length = L := ⟨_, rfl⟩
  have hs2 : (sb b).size = L := by rw [sb_size, hL]
  rw [hL] at hb hbl
  clear h hka hL
  by_cases h0 : L = 0
  · subst h0
    go_enter Tryd.func21, Tryd.ntmps21
    go_wp2_with fail
    ((refine (show Calls Tryd.prog _ #[_] _ _ from HC.out).mono ?_); rintro ee w' ⟨rfl, rfl⟩)
    go_wp2_with fail
    go_ret2
    exact ⟨rfl, HK.out⟩
  · have hd0 : ((L : Int) == 0) = false := by simp; omega
    have hd1 : decide (4096 < L) = true := by simp; omega
    go_enter Tryd.func21, Tryd.ntmps21
    go_wp2_with fail
    ((refine (show Calls Tryd.prog _ #[_] _ _ from HC.out).mono ?_); rintro ee w' ⟨rfl, rfl⟩)
    go_wp2_with fail
    go_ret2
    exact ⟨rfl, HK.out⟩
end
end Go.Proofs.YtnhajhejkecihaaDoor
/- Install: the store's Patch. -/
namespace Go.Proofs.YtnhajhejkecihaaDoor
open Go.RowKit
set_option linter.unusedVariables false
set_option linter.unusedSimpArgs false

theorem patch_mem {M b old : Bytes} {x k len : Nat} (hM : x + len ≤ M.length) (ho : (M.drop x).take len = old) (hk : k + b.length ≤ len) : ((wrote M (x + k) b).drop x).take len = spliced old (k : Int) b := by
  obtain ⟨A, hA⟩ : ∃ A, M.drop x = A := ⟨_, rfl⟩
  have h1 : (wrote M (x + k) b).drop x = A.take k ++ (b ++ A.drop (k + b.length)) := by
    unfold wrote
    rw [List.drop_append_of_le_length (by rw [List.length_take]; omega), List.drop_take, show x + k - x = k by omega, hA, show x + k + b.length = x + (k + b.length) by omega, ← List.drop_drop, hA]
  have hAl : len ≤ A.length := by rw [← hA, List.length_drop]; omega
  rw [h1, ← ho, hA]
  unfold spliced
  rw [Int.toNat_natCast, List.take_append, List.take_append, List.length_take, Nat.min_eq_left (by omega), List.take_take, List.take_take, List.drop_take, Nat.min_eq_right (show k ≤ len by omega), Nat.min_eq_left (show k ≤ len by omega)]
  rw [List.take_of_length_le (show b.length ≤ len - k by omega), List.append_assoc]
  congr 3
  omega
def MS.patched (s : MS) (i : Nat) (b : Bytes) : MS := s.put i { (s.all.getD i ME.dflt) with bytes := b, owed := s.owing }
theorem MS.Inv.apart_at {s : MS} (h : s.Inv) {i j : Nat} (hi : i < s.all.length) (hj : j < s.all.length) (hij : i ≠ j) : (s.all[i]).stop ≤ (s.all[j]).a ∨ (s.all[j]).stop ≤ (s.all[i]).a := by
  have hp := List.pairwise_iff_getElem.1 h.apart
  rcases Nat.lt_or_gt_of_ne hij with h1 | h1
  · exact (hp i j hi hj h1).2
  · exact (hp j i hj hi h1).2.symm
theorem Coh.patched {s : MS} {M : Bytes} {fs : List Cache} (h : Coh s M fs) (hI : s.Inv) (hM : M.length = 4096) {i k : Nat} (hi : i < s.all.length) {b : Bytes} (hb : 0 < b.length) (hk : k + b.length ≤ (s.all.getD i ME.dflt).bytes.length) :
    Coh (s.patched i (spliced (s.all.getD i ME.dflt).bytes (k : Int) b)) (Go.Proofs.YtnhajhejkecihaaDoor.wrote M (16 * (s.all.getD i ME.dflt).a + k) b) fs := by
  obtain ⟨e, he⟩ : ∃ e, s.all.getD i ME.dflt = e := ⟨_, rfl⟩
  have hei : s.all[i] = e := by rw [← he, List.getD_eq_getElem?_getD, List.getElem?_eq_getElem hi]; rfl
  have hme : e ∈ s.all := by rw [← he]; exact getD_mem hi
  rw [he] at hk ⊢
  have hst := (hI.size e hme).2
  have hse : e.stop = e.a + lns e.bytes.length := rfl
  unfold lns at hse
  have hle : 16 * e.a + k + b.length ≤ M.length := by omega
  have old : ∀ j (hj : j < s.all.length), j ≠ i → 16 * (s.all[j]).stop ≤ 16 * e.a + k ∨ 16 * e.a + k + b.length ≤ 16 * (s.all[j]).a := fun j hj hji => by
    have := hI.apart_at hj hi hji
    rw [hei] at this
    omega
  have hsl : (spliced e.bytes (k : Int) b).length = e.bytes.length := spliced_length hk
  refine ⟨h.len, fun x hx => ?_, fun c hc x hx hox kk h1 h2 => ?_⟩
  · obtain ⟨j, hj, rfl⟩ := List.getElem_of_mem hx
    have hj' : j < s.all.length := by simpa [MS.patched, MS.put] using hj
    by_cases hji : j = i
    · subst hji
      have ex : (s.patched j (spliced e.bytes (k : Int) b)).all[j] = { e with bytes := spliced e.bytes (k : Int) b, owed := s.owing } := by
        simp only [MS.patched, MS.put, List.getElem_set_self]
        rw [he]
      rw [ex]
      simp only
      rw [hsl]
      exact patch_mem (by omega) (h.mem e hme) hk
    · have ex : (s.patched i (spliced e.bytes (k : Int) b)).all[j] = s.all[j] := by
        simp only [MS.patched, MS.put]
        rw [List.getElem_set_ne (fun e => hji e.symm)]
      rw [ex]
      have hm : s.all[j] ∈ s.all := List.getElem_mem hj'
      rw [wrote_old hle (by
        have hs : (s.all[j]).stop = (s.all[j]).a + lns (s.all[j]).bytes.length := rfl
        unfold lns at hs
        have := old j hj' hji
        omega)]
      exact h.mem _ hm
  · obtain ⟨j, hj, rfl⟩ := List.getElem_of_mem hx
    have hj' : j < s.all.length := by simpa [MS.patched, MS.put] using hj
    by_cases hji : j = i
    · subst hji
      have ex : (s.patched j (spliced e.bytes (k : Int) b)).all[j] = { e with bytes := spliced e.bytes (k : Int) b, owed := s.owing } := by
        simp only [MS.patched, MS.put, List.getElem_set_self]
        rw [he]
      rw [ex] at hox
      have hcl : c < s.inn.length := by rw [← h.len]; exact hc
      simp [MS.owing, List.getD_eq_getElem?_getD, hcl] at hox
    · have ex : (s.patched i (spliced e.bytes (k : Int) b)).all[j] = s.all[j] := by
        simp only [MS.patched, MS.put]
        rw [List.getElem_set_ne (fun e => hji e.symm)]
      rw [ex] at hox h1 h2
      have e1 : line (Go.Proofs.YtnhajhejkecihaaDoor.wrote M (16 * e.a + k) b) kk = line M kk := by
        unfold line
        exact wrote_old hle (by have := old j hj' hji; omega)
      rw [e1]
      exact h.cache c hc _ (List.getElem_mem hj') hox kk h1 h2
section
variable {n : Nat} {w w' : World} {p : Nat} {r : SR} {s : MS}
/-- An entry is turned, and the board's memory; the entry has a new map. -/
theorem IsStore.entry2 (h : IsStore n w p r s) {i : Nat} (hi : i < s.all.length) (e : ME) (o : Nat) {M : Bytes} {fs : List Cache} (hb : IsBoard w r.bb r.br M fs) {M' : Bytes} (hb' : IsBoard w' r.bb r.br M' fs)
    (hcell : w'.heap[r.es.getD i 0]? = some (.cells (ecells e (r.xs.getD i MX.dflt) o).toArray 73 (0, 0))) (hf : FB Tryd.prog 3 4 w' o (owedS e.owed) (e.owed.count true))
    (hk : Keep (fun k => k = r.es.getD i 0 ∨ k = r.br.mb) w w') (ho : w.heap.size ≤ o) (hinv : (s.put i e).Inv) (hco : Coh (s.put i e) M' fs) : IsStore n w' p { r with os := r.os.set i o } (s.put i e) := by
  have hie : i < r.es.length := by rw [h.eslen]; exact hi
  have hem : r.es.getD i 0 ∈ r.es := getD_mem hie
  obtain ⟨ecs, hec⟩ := h.es_cells hem
  obtain ⟨mcs, hmc⟩ := own_type hb.mem (k := r.br.mb) rfl
  have hl : (s.put i e).all.length = s.all.length := by simp [MS.put]
  have far : ∀ {k : Nat} {cs : Array Value} {t : TypeId}, w.heap[k]? = some (.cells cs t (0, 0)) → t ≠ 73 → t ≠ 5 → ¬ (k = r.es.getD i 0 ∨ k = r.br.mb) := fun hcc ht hu => by
    rintro (e | e)
    · exact cells_ne hcc hec ht e
    · exact cells_ne hcc hmc hu e
  have farm : ∀ {k : Nat} {es : Array MapEntry} {ck : Nat}, w.heap[k]? = some (.map es ck) → ¬ (k = r.es.getD i 0 ∨ k = r.br.mb) := fun hcc => by
    rintro (e | e)
    · exact map_ne hec hcc e.symm
    · exact map_ne hmc hcc e.symm
  have hlow : n ≤ w.heap.size := Nat.le_trans (h.low p (.inl rfl)) (Nat.le_of_lt (blk_lt h.hdr))
  have hrow := hk.own h.row (fun k e' => by
    obtain ⟨c, hcc⟩ := own_type h.row e'
    exact far hcc (by decide) (by decide))
  refine ⟨by rw [hl]; exact (hk.block p (blk_lt h.hdr) (far h.hdr (by decide) (by decide))).trans h.hdr, ⟨M', fs, hb', hco⟩, hk.own h.inn (fun k e' => ?_), by rw [hl]; exact hrow, fun j hj => ?_, h.esN, ?_, ⟨by rw [List.length_set, hl]; exact h.oslen.1, by rw [hl]; exact h.oslen.2⟩, fun k hkf => ?_, hinv⟩
  · obtain ⟨c, hcc⟩ := own_type h.inn e'
    exact far hcc (by decide) (by decide)
  · rw [hl] at hj
    by_cases hij : i = j
    · subst hij
      have e1 : (s.put i e).all.getD i ME.dflt = e := getD_set_self _ _ _ _ hi
      have e2 : (r.os.set i o).getD i 0 = o := getD_set_self _ _ _ _ (by rw [h.oslen.1]; exact hi)
      rw [e1]
      show w'.heap[r.es.getD i 0]? = some (.cells (ecells e (r.xs.getD i MX.dflt) ((r.os.set i o).getD i 0)).toArray _ _) ∧ FB _ _ _ _ ((r.os.set i o).getD i 0) _ _
      rw [e2]
      exact ⟨hcell, hf⟩
    · have e1 : (s.put i e).all.getD j ME.dflt = s.all.getD j ME.dflt := getD_set_ne' _ _ _ _ _ hij
      have e2 : (r.os.set i o).getD j 0 = r.os.getD j 0 := getD_set_ne' _ _ _ _ _ hij
      rw [e1]
      show w'.heap[r.es.getD j 0]? = some (.cells (ecells _ (r.xs.getD j MX.dflt) ((r.os.set i o).getD j 0)).toArray _ _) ∧ FB _ _ _ _ ((r.os.set i o).getD j 0) _ _
      rw [e2]
      refine ⟨(hk.block _ (blk_lt (h.ents j hj).1) ?_).trans (h.ents j hj).1, (h.ents j hj).2.keep hk ?_⟩
      · rintro (e' | e')
        · exact nodup_ne h.esN (by rw [h.eslen]; exact hj) hie (fun e => hij e.symm) e'
        · exact cells_ne (h.ents j hj).1 hmc (by decide) e'
      · obtain ⟨es, ck, hm⟩ := h.os_map (getD_mem (i := j) (x := 0) (by rw [h.oslen.1]; exact hj))
        exact farm hm
  · have hold : ∀ k ∈ r.br.ms ++ r.os, k < w.heap.size := fun k hk => by
      rcases List.mem_append.1 hk with hk | hk
      · exact h.foot_lt k (.inr (.inl (.inr (.inr (.inr hk)))))
      · exact h.foot_lt k (.inr (.inr (.inr (.inr (.inr hk)))))
    have := List.nodup_append.1 h.maps
    show (r.br.ms ++ r.os.set i o).Nodup
    rw [List.nodup_append]
    refine ⟨this.1, nodup_set _ _ _ this.2.1 (fun hm => by have := hold o (List.mem_append.2 (.inr hm)); omega), fun x hx y hy => ?_⟩
    rcases List.mem_or_eq_of_mem_set hy with hy | rfl
    · exact this.2.2 x hx y hy
    · have := hold x (List.mem_append.2 (.inl hx))
      omega
  · rcases hkf with hk1 | hk1 | hk1 | hk1 | hk1 | hk1
    · exact h.low k (.inl hk1)
    · exact h.low k (.inr (.inl hk1))
    · exact h.low k (.inr (.inr (.inl hk1)))
    · exact h.low k (.inr (.inr (.inr (.inl hk1))))
    · exact h.low k (.inr (.inr (.inr (.inr (.inl hk1)))))
    · rcases List.mem_or_eq_of_mem_set hk1 with hk1 | rfl
      · exact h.low k (.inr (.inr (.inr (.inr (.inr hk1)))))
      · omega
end
section
variable {n : Nat} {w : World} {p : Nat} {r : SR} {s : MS}
set_option maxRecDepth 100000 in
theorem patch_none (h : IsStore n w p r s) (id at_ : Int) (b : Bytes) (hf : s.find id = none) : Calls Tryd.prog 18 #[.pointer (some ⟨p, 0, none⟩), .int .i64 id, .int .i64 at_, .string (sb b)] w fun e w' => e = .returned (.int .i64 14) ∧ w = w' := by
  have HC := Lib.hid (closed_any h)
  have HF := Lib.hid (find_any h id)
  rw [hf] at HF
  change Hid (Calls _ _ _ _ fun e w' => e = Ending.returned (Value.pointer none) ∧ _) at HF
  clear h hf
  go_enter Tryd.func18, Tryd.ntmps18
  go_wp2_with fail
  ((with_reducible refine HC.out.mono ?_); rintro ee w' ⟨rfl, rfl⟩)
  go_wp2_with fail
  ((with_reducible refine HF.out.mono ?_); rintro ee w' ⟨rfl, rfl⟩)
  go_wp2_with fail
  go_ret
  exact ⟨rfl, rfl⟩
theorem sb_empty {b : Bytes} (h : b ≠ []) : (sb b).toList.isEmpty = false := by
  rw [← decide_eq_emptyBytes]
  refine decide_eq_false (fun e => ?_)
  have := congrArg ByteArray.size e
  rw [sb_size] at this
  have e0 : (ByteArray.empty).size = 0 := rfl
  have := List.length_pos_iff.2 h
  omega
set_option maxRecDepth 100000 in
set_option maxHeartbeats 8000000 in
theorem patch_arg (h : IsStore n w p r s) (id at_ : Int) (b : Bytes) {i : Nat} (hf : s.find id = some i) (hat : -1000 ≤ at_ ∧ at_ ≤ 1000) (hbl : b.length ≤ 1000) (hfit : fitsAt (s.all.getD i ME.dflt).bytes at_ b = false) :
    Calls Tryd.prog 18 #[.pointer (some ⟨p, 0, none⟩), .int .i64 id, .int .i64 at_, .string (sb b)] w fun e w' => e = .returned (.int .i64 1) ∧ w = w' := by
  have HC := Lib.hid (closed_any h)
  have HF := Lib.hid (find_any h id)
  rw [hf] at HF
  obtain ⟨hi, _, _⟩ := found_at hf
  change Hid (Calls _ _ _ _ fun e w' => e = Ending.returned (Value.pointer (some ⟨r.es.getD i 0, 0, none⟩)) ∧ _) at HF
  have e4 := h.ecell hi 4
  have hsz := h.inv.size _ (getD_mem (x := ME.dflt) hi)
  obtain ⟨eb, heb⟩ : ∃ eb, r.es.getD i 0 = eb := ⟨_, rfl⟩
  obtain ⟨e, he⟩ : ∃ e, s.all.getD i ME.dflt = e := ⟨_, rfl⟩
  rw [heb] at HF e4
  rw [he] at e4 hfit hsz
  replace e4 : w.cell? ⟨eb, 4, none⟩ = some (.string (sb e.bytes)) := e4.trans rfl
  have hst := hsz.2
  unfold ME.stop lns at hst
  obtain ⟨ol, hol⟩ : ∃ ol, e.bytes.length = ol := ⟨_, rfl⟩
  obtain ⟨bl, hble⟩ : ∃ bl, b.length = bl := ⟨_, rfl⟩
  have hs1 : (sb e.bytes).size = ol := by rw [sb_size, hol]
  have hs2 : (sb b).size = bl := by rw [sb_size, hble]
  rw [hol] at hst
  obtain ⟨so, hso⟩ : ∃ so, sb e.bytes = so := ⟨_, rfl⟩
  rw [hso] at e4 hs1
  unfold fitsAt at hfit
  rw [hol, hble] at hfit
  clear h hf heb he hsz hso hi
  by_cases h1 : at_ < 0
  · have hb1 : decide (at_ < 0) = true := by simpa using h1
    clear hfit
    go_enter Tryd.func18, Tryd.ntmps18
    go_wp2_with fail
    ((with_reducible refine HC.out.mono ?_); rintro ee w' ⟨rfl, rfl⟩)
    go_wp2_with fail
    ((with_reducible refine HF.out.mono ?_); rintro ee w' ⟨rfl, rfl⟩)
    go_wp2_with fail
    go_ret
    exact ⟨rfl, rfl⟩
  · obtain ⟨m, rfl⟩ := Int.eq_ofNat_of_zero_le (show 0 ≤ at_ by omega)
    have hneg : decide ((m : Int) < 0) = false := by simp
    by_cases h3 : b = []
    · subst h3
      have hsb : sb ([] : Bytes) = ⟨#[]⟩ := rfl
      rw [hsb]
      clear hsb hfit hs2
      go_enter Tryd.func18, Tryd.ntmps18
      go_wp2_with fail
      ((with_reducible refine HC.out.mono ?_); rintro ee w' ⟨rfl, rfl⟩)
      go_wp2_with fail
      ((with_reducible refine HF.out.mono ?_); rintro ee w' ⟨rfl, rfl⟩)
      go_wp2_with fail
      go_ret
      exact ⟨rfl, rfl⟩
    · have hemp := sb_empty h3
      by_cases h2 : ol < m
      · have hb1 : decide (ol < m) = true := by simpa using h2
        clear hfit
        go_enter Tryd.func18, Tryd.ntmps18
        go_wp2_with fail
        ((with_reducible refine HC.out.mono ?_); rintro ee w' ⟨rfl, rfl⟩)
        go_wp2_with fail
        ((with_reducible refine HF.out.mono ?_); rintro ee w' ⟨rfl, rfl⟩)
        go_wp2_with fail
        go_ret
        exact ⟨rfl, rfl⟩
      · have hb1 : decide (ol < m) = false := by simpa using h2
        have h4 : (ol : Int) - (m : Int) < (bl : Int) := by
          by_cases h5 : (bl : Int) ≤ (ol : Int) - (m : Int)
          · exfalso
            have h6 : b.isEmpty = false := List.isEmpty_eq_false_iff.2 h3
            rw [show decide ((0 : Int) ≤ (m : Int)) = true by simp, show decide ((m : Int) ≤ (ol : Int)) = true by simp; omega, show decide ((bl : Int) ≤ (ol : Int) - (m : Int)) = true by simpa using h5, h6] at hfit
            cases hfit
          · omega
        have hb2 : decide ((ol : Int) - (m : Int) < (bl : Int)) = true := by simpa using h4
        clear hfit
        go_enter Tryd.func18, Tryd.ntmps18
        go_wp2_with fail
        ((with_reducible refine HC.out.mono ?_); rintro ee w' ⟨rfl, rfl⟩)
        go_wp2_with fail
        ((with_reducible refine HF.out.mono ?_); rintro ee w' ⟨rfl, rfl⟩)
        go_wp2_with fail
        go_ret
        exact ⟨rfl, rfl⟩
end
end Go.Proofs.YtnhajhejkecihaaDoor
