/- JournalKeeps: what was appended is there, in order, however often the journal is opened anew. -/
import Derived.Test.YtbmmcdnmbdoglaaJ15
import Derived.Test.YtbmmcdnmbdoglaaKM
import Derived.Test.YtbmmcdnmbdoglaaKS
import Derived.Test.YtbmmcdnmbdoglaaKL
import Derived.Deep.RegionHeld3
import Derived.Deep.RegionHeld3
import Derived.Deep.RegionHeld3
import Derived.Deep.RegionHeld3
import Derived.Deep.DeepCutAuto
namespace Go.Proofs.Ytbmmcdnmbdoglaa
open Go.ChangeShapes Go.WideShapes Go.ChangeAt Go.RowKit
set_option linter.unusedVariables false
set_option linter.unusedSimpArgs false

/-- More is known from here on. -/
theorem wpAnyH_more {P : Program} {md : Region.Mode} {ops : Array Oper} {Q : Exit → Act → World → Prop} {S S2 : World → Prop} (hS : ∀ w, S2 w → S w) : ∀ (fuel : Nat) (listed : Array Bool) (a : Act) (w : World), wpAnyH P md ops Q S2 fuel listed a w → wpAnyH P md ops Q S fuel listed a w
  | 0, _, _, _, h => h
  | fuel + 1, _, _, _, h => ⟨h.1, fun i hi => wpOp_mono (fun a' w' h' => ⟨hS _ h'.1, wpAnyH_more hS fuel _ a' w' h'.2⟩) (h.2 i hi)⟩
/-- A journal with its model: both have l. -/
def PJ (w0 : World) (n mp : Nat) (w : World) (jp p : Nat) (l : List Bytes) (C : Nat) : Prop :=
  Since w0.heap.size w0 w ∧ ∃ Y, GJ n Y w jp p l C ∧ MX n w mp ⟨l, [], false, bytesOf l⟩ Y
theorem pj_model {w0 w w' : World} {n mp jp p C : Nat} {l' : List Bytes} {Y Z : Nat → Prop} (hs : Since w0.heap.size w0 w) (hn : w0.heap.size ≤ n) (hj : GJ n Y w jp p l' C) (hk : Keep Z w w') (hZ : ∀ k, Z k → Y k) (hZn : ∀ k, Z k → n ≤ k) {m : MS} (hm : m = ⟨l', [], false, bytesOf l'⟩)
    (h : ∃ Y', MX n w' mp m Y' ∧ ∀ k, Y' k → k < w'.heap.size ∧ (Z k ∨ w.heap.size ≤ k)) : PJ w0 n mp w' jp p l' C := by
  obtain ⟨Y', h1, h2⟩ := h
  subst hm
  refine ⟨Keep.trans hs (Keep.mono hk (fun k hk' => Nat.le_trans hn (hZn k hk'))), Y', hj.beside hk hZ (fun k hk' => ⟨(h2 k hk').1, ?_⟩), h1⟩
  rcases (h2 k hk').2 with h3 | h3
  · exact .inl (hZ k h3)
  · exact .inr h3
theorem pj_cell {w0 w : World} {n mp jp p C : Nat} {l : List Bytes} (h : PJ w0 n mp w jp p l C) : ∃ A c, w.cell? ⟨mp, 0, none⟩ = some (.slice A l.length c) := by
  obtain ⟨_, Y, _, h2⟩ := h
  exact h2.cell
theorem pj_many {w0 w : World} {n mp jp p C : Nat} {l : List Bytes} (h : PJ w0 n mp w jp p l C) : Calls Try.prog 17 #[.pointer (some ⟨jp, 0, none⟩)] w fun e w' => e = .returned (.int .i64 (l.length : Int)) ∧ w = w' := by
  obtain ⟨_, Y, h1, _⟩ := h
  exact many_GJ h1
def PD (w0 : World) (n mp : Nat) (w : World) (p : Nat) (l : List Bytes) (C : Nat) : Prop :=
  Since w0.heap.size w0 w ∧ ∃ Y, GD n Y w p l C ∧ MX n w mp ⟨l, [], false, bytesOf l⟩ Y
def PO (w0 : World) (n mp : Nat) (w : World) (jp p : Nat) (l : List Bytes) (C : Nat) (A : Option Addr) : Prop :=
  Since w0.heap.size w0 w ∧ ∃ Y Z, GJ n Z w jp p l C ∧ MX n w mp ⟨l, [], false, bytesOf l⟩ Y ∧ (∀ k, Y k → Z k) ∧ ∀ a, A = some a → ¬ Y a.block
theorem pj_pd {w0 w : World} {n mp jp p C : Nat} {l : List Bytes} (h : PJ w0 n mp w jp p l C) : PD w0 n mp w p l C := let ⟨h1, Y, h2, h3⟩ := h; ⟨h1, Y, h2.gd, h3⟩
theorem open_PD {w0 w : World} {n mp p C : Nat} {l : List Bytes} (h : PD w0 n mp w p l C) (hn : w0.heap.size ≤ n) (hC : C ≤ 80000000) :
    Calls Try.prog 12 #[.pointer (some ⟨p, 0, none⟩)] w fun e w' => ∃ jp A c, e = .returned (.tuple #[.pointer (some ⟨jp, 0, none⟩), .slice A l.length c, .int .i64 0]) ∧ PO w0 n mp w' jp p l (C + 1) A ∧ StrsAt w' A l.length l ∧ (A = none → l.length = 0 ∧ c = 0) := by
  obtain ⟨hs, Y, h1, h2⟩ := h
  refine (open_GD h1 hC).mono ?_
  rintro e w' ⟨jp, A, c, rfl, hj, hk, hA, hA2, hA3⟩
  refine ⟨jp, A, c, rfl, ⟨Keep.trans hs (Since.mono hk.since hn), Y, _, hj, h2.kx hk (fun _ h => h), fun k hk' => .inl hk', fun a ha hy => ?_⟩, hA, hA3.1⟩
  have := (h2.lt _ hy).2
  have := hA2 a ha
  omega
theorem opens_PO {w0 w : World} {n mp jp p C k c : Nat} {l : List Bytes} {A : Option Addr} (h : PO w0 n mp w jp p l C A) (hn : w0.heap.size ≤ n) (hA : StrsAt w A k l) (hno : A = none → k = 0 ∧ c = 0) (hk : k ≤ 1000000) (hby : bytesOf l ≤ 16777216) :
    Calls Try.prog 19 #[.pointer (some ⟨mp, 0, none⟩), .slice A k c] w fun e w' => e = .returned (.bool true) ∧ PJ w0 n mp w' jp p l C := by
  obtain ⟨hs, Y, Z, h1, h2, h3, h4⟩ := h
  refine (opens_same h2 h1.le hA hno h4 rfl hk hby).mono ?_
  rintro e w' ⟨rfl, Y', hm, hk', hy⟩
  exact ⟨rfl, pj_model hs hn h1 hk' h3 (fun i hi => (h2.lt i hi).1) rfl ⟨Y', hm, hy⟩⟩
theorem crash_PJ {w0 w : World} {n mp jp p C : Nat} {l : List Bytes} (h : PJ w0 n mp w jp p l C) (S : Option Addr) (m sc : Nat) (ns : List Int) (hS : IntsAt w S m ns) (hns : ∀ x ∈ ns, -9223372036854775808 ≤ x ∧ x ≤ 9223372036854775807) :
    Calls Try.prog 18 #[.pointer (some ⟨p, 0, none⟩), .slice S m sc] w fun e w' => ∃ p', e = .returned (.pointer (some ⟨p', 0, none⟩)) ∧ PD w0 n mp w' p' l 0 := by
  obtain ⟨hs, Y, h1, h2⟩ := h
  refine (crash_GJ h1 S m sc ns hS hns).mono ?_
  rintro e w' ⟨rfl, hd, _, hs'⟩
  exact ⟨_, rfl, Keep.trans hs (Since.mono hs' hs.size), Y, hd, h2.since hs'⟩
theorem pj_alloc {w0 w : World} {n mp jp p C : Nat} {l : List Bytes} (h : PJ w0 n mp w jp p l C) (o : Obj) : PJ w0 n mp (w.alloc o) jp p l C := by
  obtain ⟨hs, Y, h1, h2⟩ := h
  have ha : Since w.heap.size w (w.alloc o) := Since.of ((Keep.refl _ _).alloc' _)
  exact ⟨Keep.trans hs (Since.mono ha hs.size), Y, h1.since ha, h2.since ha⟩
theorem pj_more {w0 w : World} {n mp jp p C C' : Nat} {l : List Bytes} (h : PJ w0 n mp w jp p l C) (hc : C ≤ C') : PJ w0 n mp w jp p l C' := let ⟨hs, Y, h1, h2⟩ := h; ⟨hs, Y, h1.more hc, h2⟩
theorem pj_drew {w0 w : World} {n mp jp p C : Nat} {l : List Bytes} (h : PJ w0 n mp w jp p l C) : PJ w0 n mp w.drew jp p l C := by
  obtain ⟨hs, Y, h1, h2⟩ := h
  exact ⟨Keep.trans hs (keep_draw _ _), Y, h1.since (keep_draw _ _), h2.since (keep_draw _ _)⟩

set_option maxHeartbeats 2000000 in
set_option maxRecDepth 100000 in
theorem keeps_walk (A : Option Addr) (n c : Nat) (l : List Bytes) (a b : Int) (w : World) (hA : StrsAt w A n l) (hlm : ∀ s ∈ l, s.length ≤ maxLen) (ha : 0 ≤ a ∧ a ≤ 4294967295) (hb : 0 ≤ b ∧ b ≤ 4294967295) :
    Calls Try.prog 3 #[.slice A n c, .int .u32 a, .int .u32 b] w fun e w' => e = .returned (.bool true) ∧ Below w.heap.size w w' := by
  have hnl := hA.2.1
  have HA := Lib.hid hA; have HLM := Lib.hid hlm
  have HLEN := Lib.hid hA.len
  clear hA hlm
  go_enter Try.func3, Try.ntmps3
  go_wp2_with fail
  refine (sanity_any w).mono ?_
  rintro e w1 ⟨rfl, hs1⟩
  have S1 := Lib.hid hs1; clear hs1
  go_wp2_with fail
  ((with_reducible refine (new_GD w1).mono ?_); rintro e w2 ⟨rfl, hd2, hs2⟩)
  have D2 := Lib.hid hd2; have S2 := Lib.hid (Keep.trans S1.out (Since.mono hs2 S1.out.size)); have L1 := Lib.hid S1.out.size; clear hd2 hs2
  go_wp2_with fail
  have h3 := open_GD D2.out (by decide)
  ((with_reducible refine h3.mono ?_); rintro e w3 ⟨jp0, A3, c3, rfl, hj3, hk3, _, _, _⟩)
  have J3 := Lib.hid hj3; have S3 := Lib.hid (Keep.trans S2.out (Since.mono hk3.since L1.out))
  clear hj3 hk3 h3 D2 S2
  go_wp2_with fail
  have h4 := new_M w3 w1.heap.size J3.out.le
  ((with_reducible refine h4.mono ?_); rintro e w4 ⟨rfl, hm4, hs4⟩)
  have HI0 := Lib.hid (show PJ w w1.heap.size w3.heap.size w4 jp0 w1.heap.size (rcs l 0) (1 + 6 * 0) from
    ⟨Keep.trans S3.out (Since.mono hs4 S3.out.size), _, J3.out.later hs4 (fun k hk => ⟨(hm4.lt k hk).2, .inr (by show w3.heap.size ≤ k; have : k = w3.heap.size := hk; omega)⟩), hm4⟩)
  clear hm4 hs4 h4 J3 S3
  obtain ⟨mp, hmp⟩ : ∃ mp, w3.heap.size = mp := ⟨_, rfl⟩
  rw [hmp] at HI0 ⊢
  clear hmp
  go_wp2_with fail
  go_loopw [8, 9, 11, 13] (fun dv jv ev i wr => ∃ (k p jp : Nat), k ≤ 20 ∧ k ≤ n ∧ dv = .pointer (some ⟨p, 0, none⟩) ∧ jv = .pointer (some ⟨jp, 0, none⟩) ∧ ev = .int .i64 0 ∧ i = .int .i64 (k : Int) ∧ Hid (PJ w w1.heap.size mp wr jp p (rcs l k) (1 + 6 * k))) (fun _ _ _ i _ => 21 - (intOf i).toNat)
  case atStart => exact ⟨0, _, _, by omega, by omega, rfl, rfl, rfl, rfl, HI0⟩
  case round =>
    obtain ⟨k, p, jp, hk, hkn, rfl, rfl, rfl, rfl, HI⟩ := hrel
    obtain ⟨wo, rfl⟩ : ∃ wo : World, wo = wr := ⟨_, rfl⟩
    by_cases hlt : k < n ∧ k < 20
    · have hl1 := hlt.1
      have hl2 := hlt.2
      have b1 : decide (k < n) = true := by simpa using hl1
      have b2 : decide (k < 20) = true := by simpa using hl2
      obtain ⟨bb, off, rfl, xw⟩ := HA.out.at_ k hl1
      have hbw := World.block_lt_of_cell? _ _ xw
      have XW := Lib.hid xw
      have hsz := str_size HLM.out k
      obtain ⟨t, ht⟩ : ∃ t, sb (l.getD k []) = t := ⟨_, rfl⟩
      rw [ht] at xw hsz XW
      have x0 : wo.cell? ⟨bb, off + k, none⟩ = some (.string t) := (HI.out.1.cell (p := ⟨bb, off + k, none⟩) hbw (fun h' => by simp only at h' hbw; omega)).trans xw
      have HT := Lib.hid ht
      have HBW := Lib.hid (show bb < w1.heap.size from Nat.lt_of_lt_of_le hbw L1.out)
      have HLK := Lib.hid (show (rcs l (k + 1)).length = k + 1 from rcs_len (by rw [HLEN.out]; omega))
      have HSU := Lib.hid (show rcs l k ++ [bs (sh t)] = rcs l (k + 1) by rw [← HT.out]; exact rcs_succ (by rw [HLEN.out]; exact hl1))
      have hbyk := rcs_bytes l k
      have hshs := sh_size t
      have HBND := Lib.hid (show bytesOf (rcs l k) + (sh t).size + 16 + 256 ≤ 16777216 by omega)
      have HLL := Lib.hid (show (rcs l k).length ≤ 1000000 by rw [rcs_len (by rw [HLEN.out]; exact hkn)]; omega)
      have HME := Lib.hid (show (⟨rcs l k ++ [bs (sh t)], [], false, bytesOf (rcs l k) + (sh t).size + 16⟩ : MS) = ⟨rcs l (k + 1), [], false, bytesOf (rcs l (k + 1))⟩ by
        rw [← HSU.out, bytesOf_append]
        simp only [bytesOf, bs_length]
        congr 1)
      have HMN := Lib.hid (show ∀ w' : World, PJ w w1.heap.size mp w' jp p (rcs l (k + 1)) (5 + 6 * k) → Calls Try.prog 17 #[.pointer (some ⟨jp, 0, none⟩)] w' fun e w'' => e = .returned (.int .i64 ((k + 1 : Nat) : Int)) ∧ w' = w'' from fun w' h => by have := pj_many h; rwa [HLK.out] at this)
      clear hlt ht xw hbw hbyk hshs
      go_upto_region 8 with fail
      obtain ⟨sD, Y, jD, mD⟩ := pj_drew HI.out
      have hap := append_GJ jD (by omega) (sh t) HBND.out
      rw [HSU.out] at hap
      have SD := Lib.hid sD; have MD := Lib.hid mD; have HAP := Lib.hid hap
      clear sD jD mD hap
      refine wp_region_held_drew (S := (fun w' => w'.cell? ⟨bb, off + k, none⟩ = some (.string t))) (by kernel_rfl) (by exact x0) (fun hH => ?_)
      refine wpAnyH_take (i := 0) (v := ?_) rfl (by kernel_rfl) (by kernel_rfl) (by kernel_rfl) (fun _ _ _ h => h) (Or.inl ⟨by rfl, ?_⟩) hH ?_
      rotate_left
      · (intro w'' hSw; (try dsimp only at hSw); go_simp; try with_reducible rfl)
      change wpAnyH _ _ _ _ _ _ _ (Act.put _ (some 34) _) _
      try simp only [Act.put, List.setIfInBounds_toArray, List.set_cons_zero, List.set_cons_succ]
      refine wpAnyH_take (i := 1) (v := ?_) rfl (by kernel_rfl) (by kernel_rfl) (by kernel_rfl) (fun _ _ _ h => h) (Or.inl ⟨by rfl, ?_⟩) hH ?_
      rotate_left
      · (intro w'' hSw; (try dsimp only at hSw); go_simp; try with_reducible rfl)
      change wpAnyH _ _ _ _ _ _ _ (Act.put _ (some 35) _) _
      try simp only [Act.put, List.setIfInBounds_toArray, List.set_cons_zero, List.set_cons_succ]
      refine wpAnyH_take (i := 2) (v := ?_) rfl (by kernel_rfl) (by kernel_rfl) (by kernel_rfl) (fun _ _ _ h => h) (Or.inl ⟨by rfl, ?_⟩) hH ?_
      rotate_left
      · (intro w'' hSw; (try dsimp only at hSw); go_simp; try with_reducible rfl)
      change wpAnyH _ _ _ _ _ _ _ (Act.put _ (some 36) _) _
      try simp only [Act.put, List.setIfInBounds_toArray, List.set_cons_zero, List.set_cons_succ]
      refine wpAnyH_take (i := 3) (v := ?_) rfl (by kernel_rfl) (by kernel_rfl) (by kernel_rfl) (fun _ _ _ h => h) (Or.inl ⟨by rfl, ?_⟩) hH ?_
      rotate_left
      · (intro w'' hSw; (try dsimp only at hSw); go_simp; try with_reducible rfl)
      change wpAnyH _ _ _ _ _ _ _ (Act.put _ (some 37) _) _
      try simp only [Act.put, List.setIfInBounds_toArray, List.set_cons_zero, List.set_cons_succ]
      refine wpAnyH_take (i := 4) (v := ?_) rfl (by kernel_rfl) (by kernel_rfl) (by kernel_rfl) (fun _ _ _ h => h) (Or.inl ⟨by rfl, ?_⟩) hH ?_
      rotate_left
      · (intro w'' hSw; (try dsimp only at hSw); go_simp; try with_reducible rfl)
      change wpAnyH _ _ _ _ _ _ _ (Act.put _ (some 38) _) _
      try simp only [Act.put, List.setIfInBounds_toArray, List.set_cons_zero, List.set_cons_succ]
      refine wpAnyH_take (i := 5) (v := ?_) rfl (by kernel_rfl) (by kernel_rfl) (by kernel_rfl) (fun _ _ _ h => h) (Or.inl ⟨by rfl, ?_⟩) hH ?_
      rotate_left
      · (intro w'' hSw; (try dsimp only at hSw); go_simp; try with_reducible rfl)
      change wpAnyH _ _ _ _ _ _ _ (Act.put _ (some 39) _) _
      try simp only [Act.put, List.setIfInBounds_toArray, List.set_cons_zero, List.set_cons_succ]
      refine wpAnyH_take (i := 6) (v := ?_) rfl (by kernel_rfl) (by kernel_rfl) (by kernel_rfl) (fun _ _ _ h => h) (Or.inl ⟨by rfl, ?_⟩) hH ?_
      rotate_left
      · (intro w'' hSw; (try dsimp only at hSw); go_simp; try with_reducible rfl)
      change wpAnyH _ _ _ _ _ _ _ (Act.put _ (some 40) _) _
      try simp only [Act.put, List.setIfInBounds_toArray, List.set_cons_zero, List.set_cons_succ]
      refine wpAnyH_take (i := 7) (v := ?_) rfl (by kernel_rfl) (by kernel_rfl) (by kernel_rfl) (fun _ _ _ h => h) (Or.inl ⟨by rfl, ?_⟩) hH ?_
      rotate_left
      · (intro w'' hSw; (try dsimp only at hSw); go_simp; try with_reducible rfl)
      change wpAnyH _ _ _ _ _ _ _ (Act.put _ (some 41) _) _
      try simp only [Act.put, List.setIfInBounds_toArray, List.set_cons_zero, List.set_cons_succ]
      refine wpAnyH_take (i := 8) (v := ?_) rfl (by kernel_rfl) (by kernel_rfl) (by kernel_rfl) (fun _ _ _ h => h) (Or.inl ⟨by rfl, ?_⟩) hH ?_
      rotate_left
      · (intro w'' hSw; (try dsimp only at hSw); go_simp; try with_reducible rfl)
      change wpAnyH _ _ _ _ _ _ _ (Act.put _ (some 42) _) _
      try simp only [Act.put, List.setIfInBounds_toArray, List.set_cons_zero, List.set_cons_succ]
      refine wpAnyH_take (i := 9) (v := ?_) rfl (by kernel_rfl) (by kernel_rfl) (by kernel_rfl) (fun _ _ _ h => h) (Or.inl ⟨by rfl, ?_⟩) hH ?_
      rotate_left
      · (intro w'' hSw; (try dsimp only at hSw); go_simp; try with_reducible rfl)
      change wpAnyH _ _ _ _ _ _ _ (Act.put _ (some 43) _) _
      try simp only [Act.put, List.setIfInBounds_toArray, List.set_cons_zero, List.set_cons_succ]
      refine wpAnyH_take (i := 10) (v := ?_) rfl (by kernel_rfl) (by kernel_rfl) (by kernel_rfl) (fun _ _ _ h => h) (Or.inl ⟨by rfl, ?_⟩) hH ?_
      rotate_left
      · (intro w'' hSw; (try dsimp only at hSw); go_simp; try with_reducible rfl)
      change wpAnyH _ _ _ _ _ _ _ (Act.put _ (some 44) _) _
      try simp only [Act.put, List.setIfInBounds_toArray, List.set_cons_zero, List.set_cons_succ]
      refine wpAnyH_take (i := 11) (v := ?_) rfl (by kernel_rfl) (by kernel_rfl) (by kernel_rfl) (fun _ _ _ h => h) (Or.inl ⟨by rfl, ?_⟩) hH ?_
      rotate_left
      · (intro w'' hSw; (try dsimp only at hSw); go_simp; try with_reducible rfl)
      change wpAnyH _ _ _ _ _ _ _ (Act.put _ (some 45) _) _
      try simp only [Act.put, List.setIfInBounds_toArray, List.set_cons_zero, List.set_cons_succ]
      refine wpAnyH_take (i := 14) (v := ?_) rfl (by kernel_rfl) (by kernel_rfl) (by kernel_rfl) (fun _ _ _ h => h) (Or.inl ⟨by rfl, ?_⟩) hH ?_
      rotate_left
      · (intro w'' hSw; (try dsimp only at hSw); go_simp; try with_reducible rfl)
      change wpAnyH _ _ _ _ _ _ _ (Act.put _ (some 48) _) _
      try simp only [Act.put, List.setIfInBounds_toArray, List.set_cons_zero, List.set_cons_succ]
      refine wpAnyH_take (i := 15) (v := ?_) rfl (by kernel_rfl) (by kernel_rfl) (by kernel_rfl) (fun _ _ _ h => h) (Or.inl ⟨by rfl, ?_⟩) hH ?_
      rotate_left
      · (intro w'' hSw; (try dsimp only at hSw); go_simp; try with_reducible rfl)
      change wpAnyH _ _ _ _ _ _ _ (Act.put _ (some 49) _) _
      try simp only [Act.put, List.setIfInBounds_toArray, List.set_cons_zero, List.set_cons_succ]
      refine wpAnyH_take (i := 16) (v := ?_) rfl (by kernel_rfl) (by kernel_rfl) (by kernel_rfl) (fun _ _ _ h => h) (Or.inl ⟨by rfl, ?_⟩) hH ?_
      rotate_left
      · (intro w'' hSw; (try dsimp only at hSw); go_simp; try with_reducible rfl)
      change wpAnyH _ _ _ _ _ _ _ (Act.put _ (some 50) _) _
      try simp only [Act.put, List.setIfInBounds_toArray, List.set_cons_zero, List.set_cons_succ]
      refine wpAnyH_take (i := 17) (v := ?_) rfl (by kernel_rfl) (by kernel_rfl) (by kernel_rfl) (fun _ _ _ h => h) (Or.inl ⟨by rfl, ?_⟩) hH ?_
      rotate_left
      · (intro w'' hSw; (try dsimp only at hSw); go_simp; try with_reducible rfl)
      change wpAnyH _ _ _ _ _ _ _ (Act.put _ (some 51) _) _
      try simp only [Act.put, List.setIfInBounds_toArray, List.set_cons_zero, List.set_cons_succ]
      refine wpAnyH_take (i := 18) (v := ?_) rfl (by kernel_rfl) (by kernel_rfl) (by kernel_rfl) (fun _ _ _ h => h) (Or.inl ⟨by rfl, ?_⟩) hH ?_
      rotate_left
      · (intro w'' hSw; (try dsimp only at hSw); go_simp; try with_reducible rfl)
      change wpAnyH _ _ _ _ _ _ _ (Act.put _ (some 52) _) _
      try simp only [Act.put, List.setIfInBounds_toArray, List.set_cons_zero, List.set_cons_succ]
      refine wpAnyH_ready (rs := [12]) (by kernel_rfl) (by simp) ?_
      refine AllReadyH.cons rfl (fun K hK => ?_) AllReadyH.nil
      go_simp
      (go_at_call 15; (with_reducible refine (short_any _ t hsz).mono ?_); rintro e wx ⟨rfl, rfl⟩)
      refine hK.out _ _ ?_ (fun hH => ?_)
      · (exact x0)
      clear hK K
      try simp only [Act.put, List.setIfInBounds_toArray, List.set_cons_zero, List.set_cons_succ]
      refine wpAnyH_ready (rs := [13]) (by kernel_rfl) (by simp) ?_
      refine AllReadyH.cons rfl (fun K hK => ?_) AllReadyH.nil
      go_simp
      (go_at_call 14; (with_reducible refine HAP.out.mono ?_); rintro e w9 ⟨rfl, hj9, hk9⟩)
      have J9 := Lib.hid hj9; have M9 := Lib.hid (MD.out.kx hk9 (fun _ h => h)); have S9 := Lib.hid (Keep.trans SD.out (Since.mono hk9.since L1.out))
      have x9 : w9.cell? ⟨bb, off + k, none⟩ = some (.string t) := hk9.cell (show wo.drew.cell? ⟨bb, off + k, none⟩ = _ from x0) (.inl HBW.out)
      clear hj9 hk9
      refine hK.out _ _ ?_ (fun hH => ?_)
      · (exact x9)
      clear hK K
      try simp only [Act.put, List.setIfInBounds_toArray, List.set_cons_zero, List.set_cons_succ]
      refine wpAnyH_ready (rs := [19]) (by kernel_rfl) (by simp) ?_
      refine AllReadyH.cons rfl (fun K hK => ?_) AllReadyH.nil
      go_simp
      (go_at_call 15; (with_reducible refine (short_any _ t hsz).mono ?_); rintro e wx ⟨rfl, rfl⟩)
      refine hK.out _ _ ?_ (fun hH => ?_)
      · (exact x9)
      clear hK K
      try simp only [Act.put, List.setIfInBounds_toArray, List.set_cons_zero, List.set_cons_succ]
      refine wpAnyH_ready (rs := [20]) (by kernel_rfl) (by simp) ?_
      refine AllReadyH.cons rfl (fun K hK => ?_) AllReadyH.nil
      go_simp
      (go_at_call 16; (with_reducible refine (append_M M9.out rfl (sh t) HBND.out HLL.out J9.out.le).mono ?_); rintro e w10 ⟨rfl, Y10, hm10, hky, hy10⟩)
      have P10 := Lib.hid (pj_model S9.out L1.out (J9.out.more (show _ ≤ 5 + 6 * k by omega)) hky (fun _ h => h) (fun i hi => (M9.out.lt i hi).1) HME.out ⟨Y10, hm10, hy10⟩)
      obtain ⟨A10, c10, hc10⟩ := pj_cell P10.out
      rw [HLK.out] at hc10
      have x10 : w10.cell? ⟨bb, off + k, none⟩ = some (.string t) := cell_kept hky x9 (fun h => by have h1 := (M9.out.lt bb h).1; have := HBW.out; omega)
      clear hm10 hky hy10
      refine hK.out _ _ ?_ (fun hH => ?_)
      · (exact x10)
      clear hK K
      try simp only [Act.put, List.setIfInBounds_toArray, List.set_cons_zero, List.set_cons_succ]
      refine wpAnyH_more (S2 := (fun w' => w'.cell? ⟨mp, 0, none⟩ = some (.slice A10 (k + 1) c10) ∧ w'.cell? ⟨bb, off + k, none⟩ = some (.string t))) (fun _ h => h.2) _ _ _ _ ?_
      replace hH := (show _ ∧ _ from ⟨hc10, x10⟩)
      refine wpAnyH_take (i := 21) (v := ?_) rfl (by kernel_rfl) (by kernel_rfl) (by kernel_rfl) (fun _ _ _ h => h) (Or.inl ⟨by rfl, ?_⟩) hH ?_
      rotate_left
      · (intro w'' hSw; (try dsimp only at hSw); go_simp; try with_reducible rfl)
      change wpAnyH _ _ _ _ _ _ _ (Act.put _ (some 55) _) _
      try simp only [Act.put, List.setIfInBounds_toArray, List.set_cons_zero, List.set_cons_succ]
      refine wpAnyH_take (i := 22) (v := ?_) rfl (by kernel_rfl) (by kernel_rfl) (by kernel_rfl) (fun _ _ _ h => h) (Or.inl ⟨by rfl, ?_⟩) hH ?_
      rotate_left
      · (intro w'' hSw; (try dsimp only at hSw); go_simp; try with_reducible rfl)
      change wpAnyH _ _ _ _ _ _ _ (Act.put _ (some 56) _) _
      try simp only [Act.put, List.setIfInBounds_toArray, List.set_cons_zero, List.set_cons_succ]
      refine wpAnyH_take (i := 23) (v := ?_) rfl (by kernel_rfl) (by kernel_rfl) (by kernel_rfl) (fun _ _ _ h => h) (Or.inl ⟨by rfl, ?_⟩) hH ?_
      rotate_left
      · (intro w'' hSw; (try dsimp only at hSw); go_simp; try with_reducible rfl)
      change wpAnyH _ _ _ _ _ _ _ (Act.put _ (some 57) _) _
      try simp only [Act.put, List.setIfInBounds_toArray, List.set_cons_zero, List.set_cons_succ]
      refine wpAnyH_take (i := 24) (v := ?_) rfl (by kernel_rfl) (by kernel_rfl) (by kernel_rfl) (fun _ _ _ h => h) (Or.inl ⟨by rfl, ?_⟩) hH ?_
      rotate_left
      · (intro w'' hSw; (try dsimp only at hSw); go_simp; try with_reducible rfl)
      change wpAnyH _ _ _ _ _ _ _ (Act.put _ (some 58) _) _
      try simp only [Act.put, List.setIfInBounds_toArray, List.set_cons_zero, List.set_cons_succ]
      refine wpAnyH_take (i := 26) (v := ?_) rfl (by kernel_rfl) (by kernel_rfl) (by kernel_rfl) (fun _ _ _ h => h) (Or.inl ⟨by rfl, ?_⟩) hH ?_
      rotate_left
      · (intro w'' hSw; (try dsimp only at hSw); go_simp; try with_reducible rfl)
      change wpAnyH _ _ _ _ _ _ _ (Act.put _ (some 60) _) _
      try simp only [Act.put, List.setIfInBounds_toArray, List.set_cons_zero, List.set_cons_succ]
      refine wpAnyH_take (i := 27) (v := ?_) rfl (by kernel_rfl) (by kernel_rfl) (by kernel_rfl) (fun _ _ _ h => h) (Or.inl ⟨by rfl, ?_⟩) hH ?_
      rotate_left
      · (intro w'' hSw; (try dsimp only at hSw); go_simp; try with_reducible rfl)
      change wpAnyH _ _ _ _ _ _ _ (Act.put _ (some 61) _) _
      try simp only [Act.put, List.setIfInBounds_toArray, List.set_cons_zero, List.set_cons_succ]
      refine wpAnyH_take (i := 28) (v := ?_) rfl (by kernel_rfl) (by kernel_rfl) (by kernel_rfl) (fun _ _ _ h => h) (Or.inl ⟨by rfl, ?_⟩) hH ?_
      rotate_left
      · (intro w'' hSw; (try dsimp only at hSw); go_simp; try with_reducible rfl)
      change wpAnyH _ _ _ _ _ _ _ (Act.put _ (some 62) _) _
      try simp only [Act.put, List.setIfInBounds_toArray, List.set_cons_zero, List.set_cons_succ]
      refine wpAnyH_take (i := 29) (v := ?_) rfl (by kernel_rfl) (by kernel_rfl) (by kernel_rfl) (fun _ _ _ h => h) (Or.inl ⟨by rfl, ?_⟩) hH ?_
      rotate_left
      · (intro w'' hSw; (try dsimp only at hSw); go_simp; try with_reducible rfl)
      change wpAnyH _ _ _ _ _ _ _ (Act.put _ (some 63) _) _
      try simp only [Act.put, List.setIfInBounds_toArray, List.set_cons_zero, List.set_cons_succ]
      refine wpAnyH_take (i := 30) (v := ?_) rfl (by kernel_rfl) (by kernel_rfl) (by kernel_rfl) (fun _ _ _ h => h) (Or.inl ⟨by rfl, ?_⟩) hH ?_
      rotate_left
      · (intro w'' hSw; (try dsimp only at hSw); go_simp; try with_reducible rfl)
      change wpAnyH _ _ _ _ _ _ _ (Act.put _ (some 64) _) _
      try simp only [Act.put, List.setIfInBounds_toArray, List.set_cons_zero, List.set_cons_succ]
      refine wpAnyH_ready (rs := [25]) (by kernel_rfl) (by simp) ?_
      refine AllReadyH.cons rfl (fun K hK => ?_) AllReadyH.nil
      go_simp
      (go_at_call 17; (with_reducible refine (HMN.out _ P10.out).mono ?_); rintro e wx ⟨rfl, rfl⟩)
      refine hK.out _ _ ?_ (fun hH => ?_)
      · (exact ⟨hc10, x10⟩)
      clear hK K
      try simp only [Act.put, List.setIfInBounds_toArray, List.set_cons_zero, List.set_cons_succ]
      refine wpAnyH_take (i := 31) (v := ?_) rfl (by kernel_rfl) (by kernel_rfl) (by kernel_rfl) (fun _ _ _ h => h) (Or.inl ⟨by rfl, ?_⟩) hH ?_
      rotate_left
      · (intro w'' hSw; (try dsimp only at hSw); go_simp; try with_reducible rfl)
      change wpAnyH _ _ _ _ _ _ _ (Act.put _ (some 65) _) _
      try simp only [Act.put, List.setIfInBounds_toArray, List.set_cons_zero, List.set_cons_succ]
      refine wpAnyH_take (i := 32) (v := ?_) rfl (by kernel_rfl) (by kernel_rfl) (by kernel_rfl) (fun _ _ _ h => h) (Or.inl ⟨by rfl, ?_⟩) hH ?_
      rotate_left
      · (intro w'' hSw; (try dsimp only at hSw); go_simp; try with_reducible rfl)
      change wpAnyH _ _ _ _ _ _ _ (Act.put _ (some 66) _) _
      try simp only [Act.put, List.setIfInBounds_toArray, List.set_cons_zero, List.set_cons_succ]
      refine wpAnyH_done (by kernel_rfl) ?_ _
      have HBY := Lib.hid (show bytesOf (rcs l (k + 1)) ≤ 16777216 by have := rcs_bytes l (k + 1); omega)
      go_wp2_with fail
      · have h11 := fun (q2 : Int) (hq : 0 ≤ q2 ∧ q2 ≤ 100) => crash_PJ (pj_alloc P10.out (.cells #[.int .i64 (k : Int), .int .i64 q2] 3)) (some ⟨w10.heap.size, 0, none⟩) 2 2 [(k : Int), q2] (cells_new w10 [.int .i64 (k : Int), .int .i64 q2] 3 (by show (2 : Nat) ≤ _; omega)) (fun x hx => by
          rcases List.mem_cons.1 hx with rfl | hx
          · omega
          · rcases List.mem_cons.1 hx with rfl | hx
            · omega
            · cases hx)
        refine (h11 _ ?_).mono ?_
        · omega
        rintro e w11 ⟨p11, rfl, hp11⟩
        have PDX := Lib.hid hp11
        clear hp11 h11
        go_wp2_with fail
        have h12 := open_PD PDX.out L1.out (by omega)
        rw [HLK.out] at h12
        ((with_reducible refine h12.mono ?_); rintro e w12 ⟨jp12, A12, c12, rfl, ho12, hA12, hno12⟩)
        have O12 := Lib.hid ho12; have A12s := Lib.hid hA12; have N12 := Lib.hid hno12
        clear ho12 hA12 hno12 h12
        go_wp2_with fail
        have h13 := opens_PO (c := c12) O12.out L1.out A12s.out N12.out (by omega) HBY.out
        ((with_reducible refine h13.mono ?_); rintro e w13 ⟨rfl, hp13⟩)
        have P13 := Lib.hid (pj_more hp13 (show _ ≤ 1 + 6 * (k + 1) by omega))
        clear hp13 h13
        go_wp2_with fail
        go_roundw
        first
          | exact ⟨k + 1, _, _, by omega, by omega, rfl, rfl, rfl, by go_num, P13⟩
          | (simp [intOf]; omega)
        all_goals (simp [intOf]; omega)
      · have PDX := Lib.hid (pj_pd P10.out)
        have h12 := open_PD PDX.out L1.out (by omega)
        rw [HLK.out] at h12
        ((with_reducible refine h12.mono ?_); rintro e w12 ⟨jp12, A12, c12, rfl, ho12, hA12, hno12⟩)
        have O12 := Lib.hid ho12; have A12s := Lib.hid hA12; have N12 := Lib.hid hno12
        clear ho12 hA12 hno12 h12
        go_wp2_with fail
        have h13 := opens_PO (c := c12) O12.out L1.out A12s.out N12.out (by omega) HBY.out
        ((with_reducible refine h13.mono ?_); rintro e w13 ⟨rfl, hp13⟩)
        have P13 := Lib.hid (pj_more hp13 (show _ ≤ 1 + 6 * (k + 1) by omega))
        clear hp13 h13
        go_wp2_with fail
        go_roundw
        first
          | exact ⟨k + 1, _, _, by omega, by omega, rfl, rfl, rfl, by go_num, P13⟩
          | (simp [intOf]; omega)
        all_goals (simp [intOf]; omega)
      · go_roundw
        first
          | exact ⟨k + 1, _, _, by omega, by omega, rfl, rfl, rfl, by go_num, Lib.hid (pj_more P10.out (show _ ≤ 1 + 6 * (k + 1) by omega))⟩
          | (simp [intOf]; omega)
        all_goals (simp [intOf]; omega)
    · have hb2 : (k < n ∧ ¬ k < 20 ∧ decide (k < n) = true ∧ decide (k < 20) = false) ∨ decide (k < n) = false := by
        by_cases h1 : k < n
        · exact .inl ⟨h1, by omega, by simpa using h1, by simp; omega⟩
        · exact .inr (by simpa using h1)
      have hmn : ∀ w' : World, PJ w w1.heap.size mp w' jp p (rcs l k) (1 + 6 * k) → Calls Try.prog 17 #[.pointer (some ⟨jp, 0, none⟩)] w' fun e w'' => e = .returned (.int .i64 (k : Int)) ∧ w' = w'' := fun w' h => by have := pj_many h; rwa [rcs_len (by rw [HLEN.out]; exact hkn)] at this
      have HMN := Lib.hid hmn
      obtain ⟨A10, c10, hc10⟩ := pj_cell HI.out
      rw [rcs_len (by rw [HLEN.out]; exact hkn)] at hc10
      have HP := Lib.hid (pj_drew HI.out)
      clear hlt hmn
      rcases hb2 with ⟨hl1, hl2, b1, b2⟩ | b1
      all_goals (
        go_wp2_with fail
        go_region_held3 (fun w' => w'.cell? ⟨mp, 0, none⟩ = some (.slice A10 k c10)) (first | exact hc10)
          (first | (go_at_call 17; ((with_reducible refine (HMN.out _ HP.out).mono ?_); rintro e wx ⟨rfl, rfl⟩)))
        go_wp2_with fail
        go_ret
        exact ⟨rfl, below_since HP.out.1 rfl⟩)
set_option maxRecDepth 100000 in
theorem keeps_lifted (os : Os) (started : os.Started) (H : Type) (enc : TypeId × Value → H) :
    ReturnsInHanded {} Try.checked os 3 .any (Rows.journalKeepsSpec.pre6 enc Try.prog Try.f3 Rows.journalKeepsRow.domain false) (Rows.journalKeepsSpec.post enc Try.prog Try.f3 false true false false) := by
  refine law_lift (C := Try.checked) Try.own started (by kernel_rfl) Try.func3
    (ChangeSpec.witness6 (enc := enc) (C := Try.checked) false ⟨#[], #[.slice none 0 0, .int .u32 0, .int .u32 0], []⟩ 8 (by kernel_rfl) (by kernel_rfl) (by kernel_rfl) (by kernel_rfl))
    Try.laidOut (by kernel_rfl) rfl rfl Try.underlying4 ?_ ?_
  · intro ds hl
    match ds, hl with
    | [d1, d2, d3], _ => exact ⟨rfl, rfl, rfl⟩
  · intro W base args ds p hval0 hA0 hlt hsz0
    have hval : ∀ (j : Nat) t v, Try.f3.params[j]? = some t → args[j]? = some v → Value.okWide Try.prog W .any base t v := hval0
    have hA : DataW.TrodAll enc Try.prog W 0 (fun _ => true) true Try.f3.params.toList args.toList ds p := hA0
    have hsz : (DataW.weightsEach Try.prog Try.f3.params.toList ds).all (· ≤ reachBytes) = true := hsz0
    rw [Try.params3] at hA hval hsz
    clear hA0 hval0 hsz0
    obtain ⟨v0, v1, v2, d0, d1, d2, p0, p1, p2, rfl, rfl, rfl, h0, h1, h2⟩ := trodAll_three hA
    have hlt0 : ∀ x ∈ p0, x.block < W.heap.size := fun x hx => hlt x (by simp [hx])
    have hlt1 : ∀ x ∈ p1, x.block < W.heap.size := fun x hx => hlt x (by simp [hx])
    have hlt2 : ∀ x ∈ p2, x.block < W.heap.size := fun x hx => hlt x (by simp [hx])
    obtain ⟨Al, nl, cl, l, rfl, il, zl⟩ := open_strs Try.underlying22 Try.underlying9 (by kernel_rfl) (hval 0 22 v0 rfl rfl) h0 hlt0
    obtain ⟨a, rfl, rfl, rfl, wa⟩ := open_int Try.underlying23 (hval 1 23 v1 rfl rfl) h1
    obtain ⟨b, rfl, rfl, rfl, wb⟩ := open_int Try.underlying23 (hval 2 23 v2 rfl rfl) h2
    exact keeps_walk Al nl cl l a b W il zl.2.2.2 (bd_u32 wa) (bd_u32 wb)

/-- The statement. -/
theorem keeps_holds : Rows.JournalKeepsSaid :=
  OpenClaim.holds_of_wide 3 Try.f3 rfl rfl rfl rfl rfl rfl rfl ⟨rfl, rfl, rfl, rfl, rfl⟩ rfl rfl rfl rfl rfl (by kernel_rfl) Try.func3 (by kernel_rfl)
    (of_decide_eq_true (by kernel_rfl)) (by unfold Func.isWrapper; first | (rw [if_pos (by decide +kernel)]; kernel_rfl) | (rw [if_neg (by decide +kernel)]; exact ⟨rfl, rfl⟩))
    (fun os started H enc _ => keeps_lifted os started H enc)
#print axioms keeps_holds
end Go.Proofs.Ytbmmcdnmbdoglaa
