/- Install: Flush. -/
import Derived.Test.YtnhajhejkecihaaIB
namespace Go.Proofs.Ytnhajhejkecihaa
open Go.RowKit Go.Lib
set_option linter.unusedVariables false

/-- A cache without the lines from lo on that begin below h. -/
def cut (lo h : Nat) (f : Cache) : Cache := fun i => if (lo : Int) ≤ i ∧ 16 * i < (h : Int) then none else f i
theorem cut_start (lo : Nat) (f : Cache) : cut lo (16 * lo) f = f := by
  funext i
  unfold cut
  rw [if_neg]
  omega
theorem cut_step (lo h : Nat) (f : Cache) (hl : 16 * lo ≤ h) : (fun j => if j = ((h : Int) / 16) then none else cut lo h f j) = cut lo (h + 1) f := by
  funext i
  unfold cut
  by_cases h1 : i = (h : Int) / 16
  · rw [if_pos h1, if_pos (by omega)]
  · rw [if_neg h1]
    by_cases h2 : (lo : Int) ≤ i ∧ 16 * i < (h : Int)
    · rw [if_pos h2, if_pos (by omega)]
    · rw [if_neg h2, if_neg (by omega)]
theorem set_same {α : Type} (l : List α) (c : Nat) (d : α) : l.set c (l.getD c d) = l := by
  apply List.ext_getElem (by simp)
  intro i h1 h2
  by_cases hi : c = i
  · subst hi
    rw [List.getElem_set_self, List.getD_eq_getElem?_getD, List.getElem?_eq_getElem h2]
    rfl
  · rw [List.getElem_set_ne hi]
theorem getD_set_self {α : Type} (l : List α) (c : Nat) (x d : α) (h : c < l.length) : (l.set c x).getD c d = x := by
  rw [List.getD_eq_getElem?_getD, List.getElem?_set_self h]
  rfl
theorem getD_set_ne' {α : Type} (l : List α) (c i : Nat) (x d : α) (h : c ≠ i) : (l.set c x).getD i d = l.getD i d := by
  rw [List.getD_eq_getElem?_getD, List.getElem?_set_ne h, List.getD_eq_getElem?_getD]
theorem nodup_ne {l : List Nat} (h : l.Nodup) {i j : Nat} (hi : i < l.length) (hj : j < l.length) (hij : i ≠ j) : l.getD i 0 ≠ l.getD j 0 := by
  rw [List.getD_eq_getElem?_getD, List.getD_eq_getElem?_getD, List.getElem?_eq_getElem hi, List.getElem?_eq_getElem hj]
  intro e
  exact hij ((List.getElem_inj h).1 e)
/-- One cache is turned. -/
theorem IsBoard.turn {w w' : World} {b : Nat} {r : BR} {M : Bytes} {fs : List Cache} (h : IsBoard w b r M fs) {c : Nat} (hc : c < fs.length) {f : Cache} (hf : FS Try.prog 3 9 w' (r.ms.getD c 0) f (cnt f)) (hk : Keep (fun k => k = r.ms.getD c 0) w w') : IsBoard w' b r M (fs.set c f) := by
  have hm : r.ms.getD c 0 ∈ r.ms := getD_mem (by rw [h.msl]; exact hc)
  obtain ⟨_, n4, n5, n6⟩ := h.apart
  have ne : ∀ k, k ∉ r.ms → k ≠ r.ms.getD c 0 := fun k hk e => hk (e ▸ hm)
  refine ⟨by rw [List.length_set]; exact (hk.block b (blk_lt h.hdr) (ne b n5)).trans h.hdr, hk.own h.mem (fun k e => by simp [Value.ownBlock] at e; subst e; exact ne _ n4), by rw [List.length_set]; exact hk.own h.caches (fun k e => by simp [Value.ownBlock] at e; subst e; exact ne _ n6), fun i hi => ?_, h.nodup, h.len⟩
  rw [List.length_set] at hi
  by_cases hci : c = i
  · subst hci
    rw [getD_set_self _ _ _ _ hi]
    exact hf
  · rw [getD_set_ne' _ _ _ _ _ hci]
    exact (h.maps i hi).keep hk (nodup_ne h.nodup (by rw [h.msl]; exact hi) (by rw [h.msl]; exact hc) (fun e => hci e.symm))

set_option maxRecDepth 100000 in
set_option maxHeartbeats 4000000 in
theorem flush_any {w : World} {b : Nat} {r : BR} {M : Bytes} {fs : List Cache} (h : IsBoard w b r M fs) (c a n : Nat) (hc : c < fs.length) (hn : 16 * a + n ≤ 4096) :
    Calls Try.prog 24 #[.pointer (some ⟨b, 0, none⟩), .int .i64 c, .int .i64 ((16 * a : Nat) : Int), .int .i64 n] w fun e w' => e = .returned (.int .i64 0) ∧ IsBoard w' b r M (fs.set c (cut a (16 * a + n) (fs.getD c (fun _ => none)))) ∧ Keep (fun k => k = r.ms.getD c 0) w w' := by
  have H := Lib.hid h
  have c1 := h.c1
  have HI := Lib.hid (inside_any h (16 * a) n hn)
  have g1 : decide (fs.length ≤ c) = false := by simpa using hc
  obtain ⟨A, hA⟩ : ∃ A, 16 * a = A := ⟨_, rfl⟩
  rw [hA] at HI
  rw [hA]
  have HA := Lib.hid hA
  have hA2 : A + n ≤ 4096 := by omega
  clear h hA
  obtain ⟨m0, hm0⟩ : ∃ m, r.ms.getD c 0 = m := ⟨_, rfl⟩
  have HM := Lib.hid hm0
  rw [hm0]
  clear hm0
  go_enter Try.func24, Try.ntmps24
  go_wp2_with fail
  ((with_reducible refine HI.out.mono ?_); rintro e w' ⟨rfl, rfl⟩)
  clear HI
  go_wp2_with fail
  go_loopw [9] (fun i wr => ∃ K : Nat, (A ≤ K ∧ K ≤ A + n) ∧ i = .int .i64 (K : Int) ∧ Hid (IsBoard wr b r M (fs.set c (cut a K (fs.getD c (fun _ => none)))) ∧ Keep (fun k => k = m0) w wr)) (fun i _ => A + n + 1 - (intOf i).toNat)
  case atStart => exact ⟨A, by omega, rfl, Lib.hid ⟨by rw [← HA.out, cut_start, set_same]; exact H.out, Keep.refl _ _⟩⟩
  case round =>
    obtain ⟨K, hK, rfl, HB⟩ := hrel
    obtain ⟨wo, rfl⟩ : ∃ wo : World, wo = wr := ⟨_, rfl⟩
    clear c1
    have d1 := HB.out.1.c1
    rw [List.length_set] at d1
    have hlen : c < (fs.set c (cut a K (fs.getD c (fun _ => none)))).length := by rw [List.length_set]; exact hc
    have d2 := HB.out.1.map hlen
    rw [HM.out] at d2
    by_cases hlt : K < A + n
    · have hb : decide ((K : Int) < (A : Int) + (n : Int)) = true := by simp; omega
      have hfs := HB.out.1.maps c hlen
      rw [getD_set_self _ _ _ _ hc, HM.out] at hfs
      obtain ⟨wd, hrun, hfd, hkd⟩ := hfs.del (ty := 0) Try.underlying3 Try.underlying79 (i := (K : Int) / 16) (wf64 (by omega))
      have hct := cut_step a K (fs.getD c (fun _ => none)) (by have := HA.out; omega)
      have hcn : (if (cut a K (fs.getD c (fun _ => none)) ((K : Int) / 16)).isSome then cnt (cut a K (fs.getD c (fun _ => none))) - 1 else cnt (cut a K (fs.getD c (fun _ => none)))) = cnt (cut a (K + 1) (fs.getD c (fun _ => none))) := by
        rw [← hct]
        have h1 : (K : Int) / 16 = ((K / 16 : Nat) : Int) := by omega
        rw [h1]
        have := cnt_one (f := cut a K (fs.getD c (fun _ => none))) (f' := fun j => if j = ((K / 16 : Nat) : Int) then none else cut a K (fs.getD c (fun _ => none)) j) (q := K / 16) (by omega) (fun k hk => by simp only [if_neg hk])
        simp only [if_true, Option.isSome_none, Bool.toNat_false, Nat.add_zero] at this
        cases hs : (cut a K (fs.getD c (fun _ => none)) ((K / 16 : Nat) : Int)).isSome with
        | true => rw [hs] at this; simp at this ⊢; omega
        | false => rw [hs] at this; simp at this ⊢; omega
      rw [hcn, hct] at hfd
      have HB2 := Lib.hid (And.intro (HB.out.1.turn hlen (by rw [HM.out]; exact hfd) (by rw [HM.out]; exact hkd)) (Keep.trans HB.out.2 hkd))
      rw [List.set_set] at HB2
      clear hfs hfd hkd hct hcn
      go_wp2_with fail
      exact ⟨⟨K + 1, by omega, by go_num, HB2⟩, by simp [intOf]; omega⟩
    · have hb : decide ((K : Int) < (A : Int) + (n : Int)) = false := by simp; omega
      obtain rfl : K = A + n := by omega
      go_wp2_with fail
      go_ret
      exact ⟨rfl, HB.out.1, HB.out.2⟩
end Go.Proofs.Ytnhajhejkecihaa
