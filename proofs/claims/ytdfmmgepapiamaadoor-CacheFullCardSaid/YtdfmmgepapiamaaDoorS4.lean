/- A cache's site: Text. -/
import Derived.Test.YtdfmmgepapiamaaDoorS3
import Derived.Test.YtdfmmgepapiamaaDoorKI
import Derived.Test.YtdfmmgepapiamaaDoorKD
import Derived.Deep.RegionHeld3
import Derived.Laws.IdiomStrings
namespace Go.Proofs.YtdfmmgepapiamaaDoor
open Go.RowKit
set_option linter.unusedVariables false

theorem Tryd.strs : OneTy Tryd.prog 59 9 (.string ⟨#[]⟩) 16 := ⟨Tryd.underlying59, by kernel_rfl, rfl⟩
def pieceB (p : Int × Int) : Bytes := Lib.itoa p.1 ++ [58] ++ Lib.itoa p.2
def CS.parts (s : CS) : List Bytes := s.l.map pieceB
def CS.text (s : CS) : Bytes := if s.full = true then [102, 117, 108, 108] else joinB s.parts [32]
theorem parts_snoc (s : CS) (k : Nat) (h : k < s.l.length) : s.parts.take k ++ [pieceB (prAt s.l k)] = s.parts.take (k + 1) := by
  unfold CS.parts
  rw [List.take_succ_eq_append_getElem (by simpa using h), List.getElem_map, pr_getElem h]
theorem strs_append (a b : List Bytes) : strs (a ++ b) = strs a ++ strs b := by simp [strs]
theorem strs_one (l : List Bytes) : ∀ u ∈ strs l, u.oneCell' = true := by
  intro u hu
  obtain ⟨x, _, rfl⟩ := List.mem_map.1 hu
  rfl
theorem lens_le (m : Nat) : ∀ l : List Bytes, (∀ x ∈ l, x.length ≤ m) → Lib.lens l ≤ m * l.length
  | [], _ => by simp [Lib.lens]
  | x :: l, h => by
    have h1 := lens_le m l (fun y hy => h y (by simp [hy]))
    have h2 := h x (by simp)
    simp only [Lib.lens, List.map_cons, List.sum_cons, List.length_cons, Nat.mul_succ] at h1 ⊢
    omega
theorem parts_len {s : CS} (h : s.Ok) : ∀ x ∈ s.parts, x.length ≤ 43 := by
  intro x hx
  obtain ⟨p, hp, rfl⟩ := List.mem_map.1 hx
  have hn := h.nums p hp
  have h1 := Lib.itoa_length_le p.1 (by omega) (by omega)
  have h2 := Lib.itoa_length_le p.2 (by omega) (by omega)
  simp only [pieceB, List.length_append, List.length_singleton]
  omega
theorem parts_join {s : CS} (h : s.Ok) : (joinB s.parts [32]).length ≤ 1000 := by
  have hp := parts_len h
  have hl : s.parts.length ≤ 4 := by unfold CS.parts; rw [List.length_map]; exact h.len
  unfold joinB
  cases hq : s.parts with
  | nil => simp [Lib.join_nil]
  | cons x r =>
    rw [Lib.join_length, ← hq]
    have := lens_le 43 s.parts hp
    rw [hq] at this hl ⊢
    simp only [List.length_cons] at this hl
    have e : ([32] : Bytes).length = 1 := rfl
    rw [e, Nat.one_mul]
    omega
theorem add_lit : (⟨#[58]⟩ : ByteArray) = sb [58] := rfl
theorem own_cap {w : World} {base n size : Nat} {e : TypeId} {v : Value} {xs : List Value} (h : w.ownsRow base e size v n xs) : ∀ A c, v = .slice A n c → n ≤ c := by
  rintro A c rfl
  rcases h.2 with ⟨h1, rfl⟩ | ⟨g, cap, cur, h1, _, _, h2, _⟩
  · cases h1
    exact Nat.zero_le _
  · injection h1 with _ h2' h3
    omega
def TwoC (p : Nat) (i : Nat) (a b : Int) (w : World) : Prop := w.cell? ⟨p, i, none⟩ = some (.int .i64 a) ∧ w.cell? ⟨p, i + 1, none⟩ = some (.int .i64 b)
theorem TwoC.keep {p i : Nat} {a b : Int} {w w' : World} {F : Nat → Prop} (h : TwoC p i a b w) (hk : Keep F w w') (hF : ¬ F p) : TwoC p i a b w' :=
  ⟨cell_kept hk h.1 hF, cell_kept hk h.2 hF⟩

set_option maxHeartbeats 4000000 in
set_option maxRecDepth 100000 in
theorem text_any {w : World} {p : Nat} {s : CS} (h : IsSite w p s) (hT : TB w) :
    Calls Tryd.prog 14 #[.pointer (some ⟨p, 0, none⟩)] w fun e w' => e = .returned (.string (sb s.text)) ∧ Since w.heap.size w w' := by
  obtain ⟨c8, c9, c10, c11, fz⟩ := h.cells
  have H := Lib.hid h
  have T := Lib.hid hT
  have hl4 := h.ok.len
  have hpl := h.lt
  have h0 := hT.pos
  cases hf : s.full with
  | true =>
    rw [hf] at c9
    have HE := Lib.hid (show s.text = [102, 117, 108, 108] by unfold CS.text; rw [if_pos hf])
    clear h hf hT
    go_enter Tryd.func14, Tryd.ntmps14
    go_wp2_with fail
    go_ret
    exact ⟨by rw [HE.out]; rfl, Keep.refl _ _⟩
  | false =>
    rw [hf] at c9
    have HE := Lib.hid (show s.text = joinB s.parts [32] by unfold CS.text; rw [hf]; simp)
    obtain ⟨m, hm⟩ : ∃ m, s.l.length = m := ⟨_, rfl⟩
    have HM := Lib.hid hm
    rw [hm] at c8 hl4
    have HPL := Lib.hid (parts_len h.ok)
    have HPJ := Lib.hid (parts_join h.ok)
    clear h hm c10 c11 fz hf hT
    go_enter Tryd.func14, Tryd.ntmps14
    go_wp2_with fail
    clear c8 c9
    go_loopw [3, 15] (fun v i wr => ∃ j : Nat, j ≤ m ∧ i = .int .i64 (j : Int) ∧ wr.ownsRow w.heap.size 9 1 v j (strs (s.parts.take j)) ∧ Since w.heap.size w wr) (fun _ i _ => m - (intOf i).toNat)
    case atStart => exact ⟨0, by omega, rfl, by simpa [strs] using World.ownsRow_nil _ _ _ _, Keep.refl _ _⟩
    case round =>
      obtain ⟨j, hj, rfl, hown, hbel⟩ := hrel
      obtain ⟨wo, rfl⟩ : ∃ wo : World, wo = wr := ⟨_, rfl⟩
      have HB := Lib.hid hbel; clear hbel
      have hsz : w.heap.size ≤ wo.heap.size := HB.out.size
      by_cases hlt : j < m
      · have hs1 := H.out.since HB.out hpl
        have hq := hs1.pair j (by rw [HM.out]; exact hlt)
        have hnm := hs1.ok.nums (prAt s.l j) (by unfold prAt; exact getD_mem (by rw [HM.out]; exact hlt))
        have hb : decide (j < m) = true := by simpa using hlt
        have hj4 : j < 4 := by omega
        have hi1 : (0 : Int) ≤ (j : Int) := by omega
        have hi2 : (j : Int) < 4 := by omega
        have hpe : pieceB (prAt s.l j) = Lib.itoa (prAt s.l j).1 ++ [58] ++ Lib.itoa (prAt s.l j).2 := rfl
        obtain ⟨a, ha⟩ : ∃ a, (prAt s.l j).1 = a := ⟨_, rfl⟩
        obtain ⟨b, hb2⟩ : ∃ b, (prAt s.l j).2 = b := ⟨_, rfl⟩
        obtain ⟨X, hX⟩ : ∃ X, pieceB (prAt s.l j) = X := ⟨_, rfl⟩
        have HX := Lib.hid hX
        rw [ha, hb2] at hq hnm hpe
        rw [hX] at hpe
        obtain ⟨sa, hsa⟩ : ∃ sa, sb (Lib.itoa a) = sa := ⟨_, rfl⟩
        obtain ⟨sc, hsc⟩ : ∃ sc, sb (Lib.itoa b) = sc := ⟨_, rfl⟩
        obtain ⟨sy, hsy⟩ : ∃ sy, sb (Lib.itoa a ++ [58]) = sy := ⟨_, rfl⟩
        have la := Lib.itoa_length_le a (by omega) (by omega)
        have lb := Lib.itoa_length_le b (by omega) (by omega)
        have hadd1 : ∀ W : World, (Op.stringOp .add sa ⟨#[58]⟩).run Tryd.prog W = .ok (.string sy) W := by
          intro W
          rw [← hsa, ← hsy, add_lit, add_bytes _ _ _ (by simp only [List.length_singleton]; omega)]
        have hadd2 : ∀ W : World, (Op.stringOp .add sy sc).run Tryd.prog W = .ok (.string (sb X)) W := by
          intro W
          rw [← hsy, ← hsc, hpe, add_bytes _ _ _ (by simp only [List.length_append, List.length_singleton]; omega)]
        have I1 := fun (W : World) (h : TB W) => Lib.hid (hsa ▸ itoa_any a (by omega) h)
        have I2 := fun (W : World) (h : TB W) => Lib.hid (hsc ▸ itoa_any b (by omega) h)
        have KC := Lib.hid (show TwoC p (j * 2) a b wo.drew from hq)
        have KC0 := Lib.hid (show TwoC p (j * 2) a b wo from hq)
        have K := Lib.hid (show Keep (fun _ => False) wo wo.drew from keep_draw _ _)
        have TW := Lib.hid (T.out.since HB.out h0)
        have HO := Lib.hid hown
        clear hs1 hq ha hb2 hown hpe hX hsa hsc hsy la lb
        go_wp2_with fail
        go_region_held3 (fun w' => w'.cell? ⟨p, j * 2, none⟩ = some (.int .i64 a) ∧ w'.cell? ⟨p, j * 2 + 1, none⟩ = some (.int .i64 b)) (first | exact KC.out | exact KC.out.keep ((Keep.refl _ _).alloc' _) id | exact KC3.out)
          (first
            | (go_at_call_of 27 (Value.int .i64 a); refine (I1 _ (TW.out.keep K.out id)).out.mono ?_; rintro e wn ⟨rfl, hkn⟩; replace KC := Lib.hid (KC.out.keep hkn id); replace K := Lib.hid (Keep.trans K.out hkn); clear hkn)
            | (go_at_call_of 27 (Value.int .i64 b); refine (I2 _ (TW.out.keep K.out id)).out.mono ?_; rintro e wn ⟨rfl, hkn⟩; replace KC := Lib.hid (KC.out.keep hkn id); replace K := Lib.hid (Keep.trans K.out hkn); clear hkn)
            | (refine step_append_src rfl 59 9 (.string ⟨#[]⟩) 16 w.heap.size Tryd.strs (.tmp 18) (.tmp 37) rfl _ j (strs (s.parts.take j)) rfl (by exact (K.out.own HO.out (fun _ _ => id)).alloc _) _ 1 1 (strs [X]) rfl (by intro h; cases h) (by exact cells_new _ _ _) (strs_one _) (by omega) (by decide) (by have := K.out.size; simp; omega) ?_; intro A' c' w2 hown2 hgrow hat; have HO2 := Lib.hid hown2; have KS := Lib.hid (show Since w.heap.size wo w2 from (Since.of (K.out.alloc' _)).grown hgrow (fun k e => .inl (own_low HO.out e))); have KC3 := Lib.hid (KC0.out.keep KS.out (by omega)); clear hown2 hgrow hat))
        have HO3 := Lib.hid (show w2.ownsRow w.heap.size 9 1 (.slice A' (j + 1) c') (j + 1) (strs (s.parts.take (j + 1))) by
          rw [← parts_snoc s j (by rw [HM.out]; exact hlt), strs_append, HX.out]; exact HO2.out)
        have HB3 := Lib.hid (Keep.trans HB.out KS.out)
        clear HO2 KS KC3 KC K I1 I2 hadd1 hadd2
        go_wp2_with fail
        exact ⟨⟨j + 1, by omega, by go_num, HO3.out, HB3.out⟩, by simp [intOf]; omega⟩
      · obtain rfl : j = m := by omega
        have hb : decide (j < j) = false := by simp
        rw [List.take_of_length_le (by unfold CS.parts; rw [List.length_map, HM.out]; exact Nat.le_refl _)] at hown
        have hcap := own_cap hown
        obtain ⟨A, c, rfl, hc⟩ := owns_cells hown
        have hcap' : j ≤ c := hcap _ _ rfl
        have hjn := join_any hc hcap' [32] (by omega) (by have := HPJ.out; omega)
        have HJ := Lib.hid (show Calls Tryd.prog 28 #[.slice A j c, .string ⟨#[32]⟩] wo _ from hjn)
        clear hown hcap hc hjn hcap'
        go_wp2_with fail
        ((with_reducible refine HJ.out.mono ?_); rintro e w2 ⟨rfl, hk⟩)
        have HK := Lib.hid (Keep.trans HB.out (Since.of hk))
        clear hk
        go_wp2_with fail
        go_ret
        exact ⟨by rw [HE.out]; rfl, HK.out⟩
end Go.Proofs.YtdfmmgepapiamaaDoor
