/- The reference journal: Opens with what it has, and the last that it perhaps has. Printed by mk_opens.py. -/
import Derived.Test.YtbmmcdnmbdoglaaJ16
import Derived.Test.YtbmmcdnmbdoglaaJA
import Derived.Deep.RegionHeld3
namespace Go.Proofs.Ytbmmcdnmbdoglaa
open Go.RowKit
set_option linter.unusedVariables false
set_option linter.unusedSimpArgs false

set_option maxHeartbeats 4000000 in
set_option maxRecDepth 100000 in
theorem opens_perhaps {n mp : Nat} {w : World} {m : MS} {X : Nat → Prop} (h : MX n w mp m X) (hn : n ≤ w.heap.size) {A : Option Addr} {k c : Nat} {l : List Bytes} (hA : StrsAt w A k l) (hno : A = none → k = 0 ∧ c = 0) (hdis : ∀ a, A = some a → ¬ X a.block) {x : ByteArray} (hbr : m.broken = true) (hmb : m.maybe = [bs x]) (hl : l = m.l ++ [bs x]) (hk : k ≤ 1000000) (hby : bytesOf l ≤ 16777216) :
    Calls Try.prog 19 #[.pointer (some ⟨mp, 0, none⟩), .slice A k c] w fun e w' => e = .returned (.bool true) ∧
      ∃ Y, MX n w' mp ⟨l, [], false, bytesOf l⟩ Y ∧ Keep X w w' ∧ ∀ k, Y k → k < w'.heap.size ∧ (X k ∨ w.heap.size ≤ k) := by
  obtain ⟨R, S, hb, hX⟩ := h
  obtain ⟨B, cB, rfl, hnoB, hcB⟩ := own_none hb.rl
  obtain ⟨DD, cD, rfl, hnoD, hcD⟩ := own_none hb.rm
  have hl1 : m.maybe.length = 1 := by rw [hmb]; rfl
  have hlk : k = m.l.length + 1 := by rw [← hA.len, hl]; simp
  rw [hl1] at hb hX hcD
  obtain ⟨g, go, rfl, hgx⟩ := CellsAt.at_ hcD 0 (by omega)
  rw [hmb] at hgx
  have hgx2 : w.cell? ⟨g, go, none⟩ = some (.string x) := by
    have e1 : (strs [bs x]).getD 0 undef = .string x := by simp [strs, sb_bs]
    rw [e1] at hgx
    exact hgx
  have c0 : w.cell? ⟨mp, 0, none⟩ = some (.slice B m.l.length cB) := by rw [blk_cell hb.blk]; rfl
  have c1 : w.cell? ⟨mp, 1, none⟩ = some (.slice (some ⟨g, go, none⟩) 1 cD) := by rw [blk_cell hb.blk]; rfl
  have c2 : w.cell? ⟨mp, 2, none⟩ = some (.bool true) := by rw [blk_cell hb.blk, ← hbr]; rfl
  have hml : mp < w.heap.size := blk_lt hb.blk
  have hgl : g < w.heap.size := World.block_lt_of_cell? _ _ hgx2
  have hsame := same_any hA (show StrsAt w B m.l.length m.l from hcB) false (by simp [hl]) (ca := c) (cb := cB)
  have HB := Lib.hid hb; have HXX := Lib.hid hX; have HS := Lib.hid hsame; have HA := Lib.hid hA; have HNO := Lib.hid hno; have HD := Lib.hid hdis
  have HLEN := Lib.hid hA.len
  have HBY := Lib.hid hby
  have NOB := Lib.hid hnoB
  have HCB := Lib.hid hcB
  have HLX := Lib.hid (show strs l = strs m.l ++ [.string x] by rw [hl]; simp [strs, sb_bs])
  have HGX := Lib.hid hgx2
  have HLK := Lib.hid hlk
  have hkm : m.l.length ≤ 1000000 := by omega
  clear hb hX hnoB hcB hsame hA hno hdis hl hby hcD hnoD hgx hgx2 hl1 hlk hmb
  go_enter Try.func19, Try.ntmps19
  go_wp2_with fail
  ((with_reducible refine HS.out.mono ?_); rintro e w1 ⟨rfl, i, hi⟩)
  have K1 := Lib.hid (show Keep (fun _ => False) w w1 by rw [hi]; exact keep_drewN _ _ _)
  have HA1 := Lib.hid (show StrsAt w1 A k l from HA.out.keep K1.out (fun _ _ => id))
  have SB := Lib.hid (HCB.out.keep K1.out (fun _ _ => id))
  have d0 := cell_kept K1.out c0 id
  have d1 := cell_kept K1.out c1 id
  have d2 := cell_kept K1.out c2 id
  have d3 := cell_kept K1.out HGX.out id
  have LM := Lib.hid (Nat.lt_of_lt_of_le hml K1.out.size); have LG := Lib.hid (Nat.lt_of_lt_of_le hgl K1.out.size)
  clear hi HS c0 c1 c2
  go_wp2_with fail
  have z0 : IntKind.i64.wrap 0 = 0 := rfl
  refine wp_region_held_drew (S := (fun w' => w'.cell? ⟨mp, 0, none⟩ = some (.slice B m.l.length cB) ∧ w'.cell? ⟨mp, 1, none⟩ = some (.slice (some ⟨g, go, none⟩) 1 cD) ∧ w'.cell? ⟨g, go, none⟩ = some (.string x))) (by kernel_rfl) ⟨d0, d1, d3⟩ (fun hH => ?_)
  clear d0 d1 d2 d3
  have ks0 : Keep (fun _ => False) w1 w1.drew := keep_draw _ _
  obtain ⟨u0w, hu0⟩ : ∃ u, w1.drew = u := ⟨_, rfl⟩
  rw [hu0] at hH ks0 ⊢
  have Ku0w := Lib.hid ks0; have Nu0w := Lib.hid (Nat.le_trans hn (Nat.le_trans K1.out.size ks0.size))
  clear ks0 hu0
  refine wpAnyH_take (i := 0) (v := ?_) rfl (by kernel_rfl) (by kernel_rfl) (by kernel_rfl) (fun _ _ _ h => h) (Or.inl ⟨by rfl, ?_⟩) hH ?_
  rotate_left
  · (intro w'' hSw; (try dsimp only at hSw); go_simp; try with_reducible rfl)
  change wpAnyH _ _ _ _ _ _ _ (Act.put _ (some 29) _) _
  try simp only [Act.put, List.setIfInBounds_toArray, List.set_cons_zero, List.set_cons_succ]
  refine wpAnyH_take (i := 2) (v := ?_) rfl (by kernel_rfl) (by kernel_rfl) (by kernel_rfl) (fun _ _ _ h => h) (Or.inl ⟨by rfl, ?_⟩) hH ?_
  rotate_left
  · (intro w'' hSw; (try dsimp only at hSw); go_simp; try with_reducible rfl)
  change wpAnyH _ _ _ _ _ _ _ (Act.put _ (some 31) _) _
  try simp only [Act.put, List.setIfInBounds_toArray, List.set_cons_zero, List.set_cons_succ]
  refine wpAnyH_take (i := 3) (v := ?_) rfl (by kernel_rfl) (by kernel_rfl) (by kernel_rfl) (fun _ _ _ h => h) (Or.inl ⟨by rfl, ?_⟩) hH ?_
  rotate_left
  · (intro w'' hSw; (try dsimp only at hSw); go_simp; try with_reducible rfl)
  change wpAnyH _ _ _ _ _ _ _ (Act.put _ (some 32) _) _
  try simp only [Act.put, List.setIfInBounds_toArray, List.set_cons_zero, List.set_cons_succ]
  refine wpAnyH_take (i := 4) (v := ?_) rfl (by kernel_rfl) (by kernel_rfl) (by kernel_rfl) (fun _ _ _ h => h) (Or.inl ⟨by rfl, ?_⟩) hH ?_
  rotate_left
  · (intro w'' hSw; (try dsimp only at hSw); go_simp; try with_reducible rfl)
  change wpAnyH _ _ _ _ _ _ _ (Act.put _ (some 33) _) _
  try simp only [Act.put, List.setIfInBounds_toArray, List.set_cons_zero, List.set_cons_succ]
  refine wpAnyH_take (i := 5) (v := ?_) rfl (by kernel_rfl) (by kernel_rfl) (by kernel_rfl) (fun _ _ _ h => h) (Or.inl ⟨by rfl, ?_⟩) hH ?_
  rotate_left
  · (intro w'' hSw; (try dsimp only at hSw); go_simp; try with_reducible rfl)
  change wpAnyH _ _ _ _ _ _ _ (Act.put _ (some 34) _) _
  try simp only [Act.put, List.setIfInBounds_toArray, List.set_cons_zero, List.set_cons_succ]
  refine wpAnyH_take (i := 7) (v := ?_) rfl (by kernel_rfl) (by kernel_rfl) (by kernel_rfl) (fun _ _ _ h => h) (Or.inl ⟨by rfl, ?_⟩) hH ?_
  rotate_left
  · (intro w'' hSw; (try dsimp only at hSw); go_simp; try with_reducible rfl)
  change wpAnyH _ _ _ _ _ _ _ (Act.put _ (some 36) _) _
  try simp only [Act.put, List.setIfInBounds_toArray, List.set_cons_zero, List.set_cons_succ]
  refine wpAnyH_take (i := 8) (v := ?_) rfl (by kernel_rfl) (by kernel_rfl) (by kernel_rfl) (fun _ _ _ h => h) (Or.inl ⟨by rfl, ?_⟩) hH ?_
  rotate_left
  · (intro w'' hSw; (try dsimp only at hSw); go_simp; try with_reducible rfl)
  change wpAnyH _ _ _ _ _ _ _ (Act.put _ (some 37) _) _
  try simp only [Act.put, List.setIfInBounds_toArray, List.set_cons_zero, List.set_cons_succ]
  refine wpAnyH_take (i := 9) (v := ?_) rfl (by kernel_rfl) (by kernel_rfl) (by kernel_rfl) (fun _ _ _ h => h) (Or.inl ⟨by rfl, ?_⟩) hH ?_
  rotate_left
  · (intro w'' hSw; (try dsimp only at hSw); go_simp; try with_reducible rfl)
  change wpAnyH _ _ _ _ _ _ _ (Act.put _ (some 38) _) _
  try simp only [Act.put, List.setIfInBounds_toArray, List.set_cons_zero, List.set_cons_succ]
  refine wpAnyH_take (i := 10) (v := ?_) rfl (by kernel_rfl) (by kernel_rfl) (by kernel_rfl) (fun _ _ _ h => h) (Or.inl ⟨by rfl, ?_⟩) hH ?_
  rotate_left
  · (intro w'' hSw; (try dsimp only at hSw); go_simp; try with_reducible rfl)
  change wpAnyH _ _ _ _ _ _ _ (Act.put _ (some 39) _) _
  try simp only [Act.put, List.setIfInBounds_toArray, List.set_cons_zero, List.set_cons_succ]
  refine wpAnyH_take (i := 11) (v := ?_) rfl (by kernel_rfl) (by kernel_rfl) (by kernel_rfl) (fun _ _ _ h => h) (Or.inl ⟨by rfl, ?_⟩) hH ?_
  rotate_left
  · (intro w'' hSw; (try dsimp only at hSw); go_simp; try with_reducible rfl)
  change wpAnyH _ _ _ _ _ _ _ (Act.put _ (some 40) _) _
  try simp only [Act.put, List.setIfInBounds_toArray, List.set_cons_zero, List.set_cons_succ]
  refine wpAnyH_take (i := 12) (v := ?_) rfl (by kernel_rfl) (by kernel_rfl) (by kernel_rfl) (fun _ _ _ h => h) (Or.inl ⟨by rfl, ?_⟩) hH ?_
  rotate_left
  · (intro w'' hSw; (try dsimp only at hSw); go_simp; try with_reducible rfl)
  change wpAnyH _ _ _ _ _ _ _ (Act.put _ (some 41) _) _
  try simp only [Act.put, List.setIfInBounds_toArray, List.set_cons_zero, List.set_cons_succ]
  refine wpAnyH_take (i := 13) (v := ?_) rfl (by kernel_rfl) (by kernel_rfl) (by kernel_rfl) (fun _ _ _ h => h) (Or.inl ⟨by rfl, ?_⟩) hH ?_
  rotate_left
  · (intro w'' hSw; (try dsimp only at hSw); go_simp; try with_reducible rfl)
  change wpAnyH _ _ _ _ _ _ _ (Act.put _ (some 42) _) _
  try simp only [Act.put, List.setIfInBounds_toArray, List.set_cons_zero, List.set_cons_succ]
  refine wpAnyH_take (i := 14) (v := ?_) rfl (by kernel_rfl) (by kernel_rfl) (by kernel_rfl) (fun _ _ _ h => h) (Or.inl ⟨by rfl, ?_⟩) hH ?_
  rotate_left
  · (intro w'' hSw; (try dsimp only at hSw); go_simp; try with_reducible rfl)
  change wpAnyH _ _ _ _ _ _ _ (Act.put _ (some 43) _) _
  try simp only [Act.put, List.setIfInBounds_toArray, List.set_cons_zero, List.set_cons_succ]
  refine wpAnyH_take (i := 15) (v := ?_) rfl (by kernel_rfl) (by kernel_rfl) (by kernel_rfl) (fun _ _ _ h => h) (Or.inl ⟨by rfl, ?_⟩) hH ?_
  rotate_left
  · (intro w'' hSw; (try dsimp only at hSw); go_simp; try with_reducible rfl)
  change wpAnyH _ _ _ _ _ _ _ (Act.put _ (some 44) _) _
  try simp only [Act.put, List.setIfInBounds_toArray, List.set_cons_zero, List.set_cons_succ]
  refine wpAnyH_take (i := 16) (v := ?_) rfl (by kernel_rfl) (by kernel_rfl) (by kernel_rfl) (fun _ _ _ h => h) (Or.inl ⟨by rfl, ?_⟩) hH ?_
  rotate_left
  · (intro w'' hSw; (try dsimp only at hSw); go_simp; try with_reducible rfl)
  change wpAnyH _ _ _ _ _ _ _ (Act.put _ (some 45) _) _
  try simp only [Act.put, List.setIfInBounds_toArray, List.set_cons_zero, List.set_cons_succ]
  refine wpAnyH_take (i := 17) (v := ?_) rfl (by kernel_rfl) (by kernel_rfl) (by kernel_rfl) (fun _ _ _ h => h) (Or.inl ⟨by rfl, ?_⟩) hH ?_
  rotate_left
  · (intro w'' hSw; (try dsimp only at hSw); go_simp; try with_reducible rfl)
  change wpAnyH _ _ _ _ _ _ _ (Act.put _ (some 46) _) _
  try simp only [Act.put, List.setIfInBounds_toArray, List.set_cons_zero, List.set_cons_succ]
  refine wpAnyH_take (i := 18) (v := ?_) rfl (by kernel_rfl) (by kernel_rfl) (by kernel_rfl) (fun _ _ _ h => h) (Or.inl ⟨by rfl, ?_⟩) hH ?_
  rotate_left
  · (intro w'' hSw; (try dsimp only at hSw); go_simp; try with_reducible rfl)
  change wpAnyH _ _ _ _ _ _ _ (Act.put _ (some 47) _) _
  try simp only [Act.put, List.setIfInBounds_toArray, List.set_cons_zero, List.set_cons_succ]
  refine wpAnyH_ready (rs := [1, 19]) (by kernel_rfl) (by simp) ?_
  refine AllReadyH.cons rfl (fun Kn hKn => ?_) ?_
  · skip
    go_simp
    refine hKn.out _ _ ?_ (fun hH => ?_)
    · exact ⟨cell_kept ((Keep.refl (fun _ => False) _).alloc' _) hH.1 id, cell_kept ((Keep.refl (fun _ => False) _).alloc' _) hH.2.1 id, cell_kept ((Keep.refl (fun _ => False) _).alloc' _) hH.2.2 id⟩
    clear hKn Kn
    try simp only [Act.put, List.setIfInBounds_toArray, List.set_cons_zero, List.set_cons_succ]
    have mk := own_new u0w 9 #[] 0 n rfl (by decide) Nu0w.out
    have ks : Keep (fun _ => False) u0w (u0w.alloc (.cells #[] 9)) := (Keep.refl _ _).alloc' _
    have zl : u0w.heap.size < (u0w.alloc (.cells #[] 9)).heap.size := by simp
    obtain ⟨u1w, hU⟩ : ∃ u, u0w.alloc (.cells #[] 9) = u := ⟨_, rfl⟩
    rw [hU] at mk ks zl hH ⊢
    have O30u1w := Lib.hid mk
    have Ku1w := Lib.hid (Keep.trans Ku0w.out ks); have Nu1w := Lib.hid (Nat.le_trans Nu0w.out ks.size); have Zu1w := Lib.hid zl
    clear mk ks zl hU
    refine wpAnyH_ready (rs := [6, 19]) (by kernel_rfl) (by simp) ?_
    refine AllReadyH.cons rfl (fun Kn hKn => ?_) ?_
    · skip
      rw [if_pos (by rfl)]
      refine oper_append_src 22 9 (.string ⟨#[]⟩) 16 n Try.strs (.tmp 30) (.tmp 34) rfl (.slice (some ⟨u0w.heap.size, 0, none⟩) 0 0) 0 [] rfl O30u1w.out B m.l.length cB (strs m.l) rfl NOB.out (SB.out.keep Ku1w.out (fun _ _ => id)) (strs_one' _) (by omega) (by decide) Nu1w.out ?_
      intro A6 c6 u2w ho6 hg6 hob6
      try simp only [Nat.zero_add, List.nil_append] at ho6 hob6 ⊢
      have hks : Keep (fun i => i = u0w.heap.size) u1w u2w := (Keep.refl _ _).grown hg6 (fun i e => .inl (by have e' : some u0w.heap.size = some i := e; exact (Option.some.inj e').symm))
      refine hKn.out _ _ ?_ (fun hH => ?_)
      · exact ⟨cell_kept hks hH.1 (fun h => by have h1 := Ku0w.out.size; have h2 := LM.out; simp only at h; omega), cell_kept hks hH.2.1 (fun h => by have h1 := Ku0w.out.size; have h2 := LM.out; simp only at h; omega), cell_kept hks hH.2.2 (fun h => by have h1 := Ku0w.out.size; have h2 := LG.out; simp only at h; omega)⟩
      clear hKn Kn
      try simp only [Act.put, List.setIfInBounds_toArray, List.set_cons_zero, List.set_cons_succ]
      have Ku2w := Lib.hid (Ku1w.out.grown hg6 (fun i e => .inr (by have e' : some u0w.heap.size = some i := e; have h1 := Option.some.inj e'; have h2 := Ku0w.out.size; omega))); have Nu2w := Lib.hid (Nat.le_trans Nu1w.out hg6.size)
      have O35u2w := Lib.hid ho6; have OB6 := Lib.hid hob6
      clear ho6 hg6 hob6 hks
      refine wpAnyH_ready (rs := [19]) (by kernel_rfl) (by simp) ?_
      refine AllReadyH.cons rfl (fun Kn hKn => ?_) AllReadyH.nil
      go_simp
      refine hKn.out _ _ ?_ (fun hH => ?_)
      · exact ⟨cell_kept ((Keep.refl (fun _ => False) _).alloc' _) hH.1 id, cell_kept ((Keep.refl (fun _ => False) _).alloc' _) hH.2.1 id, cell_kept ((Keep.refl (fun _ => False) _).alloc' _) hH.2.2 id⟩
      clear hKn Kn
      try simp only [Act.put, List.setIfInBounds_toArray, List.set_cons_zero, List.set_cons_succ]
      have mk := cells_new u2w [.string x] 9
      have ks : Keep (fun _ => False) u2w (u2w.alloc (.cells #[.string x] 9)) := (Keep.refl _ _).alloc' _
      have zl : u2w.heap.size < (u2w.alloc (.cells #[.string x] 9)).heap.size := by simp
      obtain ⟨u3w, hU⟩ : ∃ u, u2w.alloc (.cells #[.string x] 9) = u := ⟨_, rfl⟩
      rw [hU] at mk ks zl hH ⊢
      have O35u3w := Lib.hid (ks.own O35u2w.out (fun _ _ => id))
      have C48u3w := Lib.hid mk
      have Ku3w := Lib.hid (Keep.trans Ku2w.out ks); have Nu3w := Lib.hid (Nat.le_trans Nu2w.out ks.size); have Zu3w := Lib.hid zl
      clear mk ks zl hU
      refine wpAnyH_ready (rs := [20]) (by kernel_rfl) (by simp) ?_
      refine AllReadyH.cons rfl (fun Kn hKn => ?_) AllReadyH.nil
      rw [if_pos (by rfl)]
      refine oper_append_src 22 9 (.string ⟨#[]⟩) 16 n Try.strs (.tmp 35) (.tmp 48) rfl (.slice A6 m.l.length c6) m.l.length (strs m.l) rfl O35u3w.out (some ⟨u2w.heap.size, 0, none⟩) 1 1 [.string x] rfl (by intro h; cases h) C48u3w.out (fun u hu => by cases List.mem_singleton.1 hu; rfl) (by omega) (by decide) Nu3w.out ?_
      intro A20 c20 u4w ho20 hg20 hob20
      have lo6 : ∀ i, (Value.slice A6 m.l.length c6).ownBlock = some i → w1.heap.size ≤ i := by
        intro i hi
        rcases OB6.out with h | h
        · rw [h] at hi
          have e' : some u0w.heap.size = some i := hi
          have h1 := Option.some.inj e'; have h2 := Ku0w.out.size; omega
        · rw [h] at hi
          have h1 := Option.some.inj hi; have h2 := Ku1w.out.size; omega
      have hks : Keep (fun i => (Value.slice A6 m.l.length c6).ownBlock = some i) u3w u4w := (Keep.refl _ _).grown hg20 (fun i e => .inl e)
      refine hKn.out _ _ ?_ (fun hH => ?_)
      · exact ⟨cell_kept hks hH.1 (fun h => by have h1 := lo6 _ h; have h2 := LM.out; simp only at h1; omega), cell_kept hks hH.2.1 (fun h => by have h1 := lo6 _ h; have h2 := LM.out; simp only at h1; omega), cell_kept hks hH.2.2 (fun h => by have h1 := lo6 _ h; have h2 := LG.out; simp only at h1; omega)⟩
      clear hKn Kn
      try simp only [Act.put, List.setIfInBounds_toArray, List.set_cons_zero, List.set_cons_succ]
      have Ku4w := Lib.hid (Ku3w.out.grown hg20 (fun i e => .inr (lo6 i e))); have Nu4w := Lib.hid (Nat.le_trans Nu3w.out hg20.size)
      obtain ⟨Aq, cq, eq, hcq⟩ := owns_cells ho20
      injection eq with e1 e2 e3
      subst e1
      have C49 := Lib.hid (show StrsAt u4w A20 (m.l.length + 1) l from (show CellsAt u4w A20 (m.l.length + 1) (strs l) by rw [HLX.out]; exact hcq))
      clear ho20 hg20 hob20 hks lo6 e2 e3 hcq
      refine wpAnyH_ready (rs := [21]) (by kernel_rfl) (by simp) ?_
      refine AllReadyH.cons rfl (fun Kn hKn => ?_) AllReadyH.nil
      go_simp
      have hs49 := same_any (show StrsAt u4w A k l from HA1.out.keep Ku4w.out (fun _ _ => id)) C49.out true (by simp) (ca := c) (cb := c20)
      ((with_reducible refine hs49.mono ?_); rintro e u5w ⟨rfl, q9, hq9⟩)
      refine hKn.out _ _ ?_ (fun hH => ?_)
      · (rw [hq9]; exact hH)
      clear hKn Kn hs49
      try simp only [Act.put, List.setIfInBounds_toArray, List.set_cons_zero, List.set_cons_succ]
      have hkz : Keep (fun _ => False) w u5w := by rw [hq9]; exact Keep.trans (Keep.trans K1.out Ku4w.out) (keep_drewN _ _ _)
      have KZ := Lib.hid hkz
      have BZ := Lib.hid (HB.out.keep KZ.out (fun _ _ => id)); have AZ := Lib.hid (show StrsAt u5w A k l from HA.out.keep KZ.out (fun _ _ => id)); have NZ := Lib.hid (Nat.le_trans hn KZ.out.size)
      clear hkz hq9
      refine wpAnyH_take (i := 22) (v := ?_) rfl (by kernel_rfl) (by kernel_rfl) (by kernel_rfl) (fun _ _ _ h => h) (Or.inl ⟨by rfl, ?_⟩) hH ?_
      rotate_left
      · (intro w'' hSw; (try dsimp only at hSw); go_simp; try with_reducible rfl)
      change wpAnyH _ _ _ _ _ _ _ (Act.put _ (some 5) _) _
      try simp only [Act.put, List.setIfInBounds_toArray, List.set_cons_zero, List.set_cons_succ]
      refine wpAnyH_done (by kernel_rfl) ?_ _
      have hmz : mp < u5w.heap.size := blk_lt BZ.out.blk
      have hnz : n ≤ u5w.heap.size := NZ.out
      clear hH
      go_wp2_with (at_builtin; refine wpList_append_want (by rfl) 22 9 (.string ⟨#[]⟩) 16 n Try.strs (.tmp 52) (.tmp 53) rfl (.slice (some ⟨u5w.heap.size, 0, none⟩) 0 0) 0 [] rfl (by exact own_new u5w 9 #[] 0 n rfl (by decide) hnz) A k c (strs l) rfl HNO.out (AZ.out.alloc _) (strs_one' l) (by omega) (by decide) (by simp; omega) ?_)
      intro A2 c2 w2 ho2 hg2 hob
      try simp only [Nat.zero_add, List.nil_append] at ho2 hob
      have hk2 : Keep (fun _ => False) u5w w2 := ((Keep.refl _ u5w).alloc _).grown hg2 (fun k e => .inr (by have : some u5w.heap.size = some k := e; have := Option.some.inj this; omega))
      have hblk2 := (hk2.block _ hmz id).trans BZ.out.blk
      have f0 := blk_free hblk2 0
      have f1 := blk_free hblk2 1
      have f2 := blk_free hblk2 2
      have f3 := blk_free hblk2 3
      have O2 := Lib.hid ho2; have K2 := Lib.hid hk2; have BL := Lib.hid hblk2; have OB := Lib.hid hob
      have d0 : ∃ u, w2.cell? ⟨mp, 0, none⟩ = some u := ⟨_, by rw [blk_cell hblk2]; rfl⟩
      have d1 : ∃ u, w2.cell? ⟨mp, 1, none⟩ = some u := ⟨_, by rw [blk_cell hblk2]; rfl⟩
      have d2 : w2.cell? ⟨mp, 2, none⟩ = some (.bool m.broken) := by rw [blk_cell hblk2]; rfl
      have d3 : w2.cell? ⟨mp, 3, none⟩ = some (.int .i64 (m.bytes : Int)) := by rw [blk_cell hblk2]; rfl
      obtain ⟨u0, d0⟩ := d0
      obtain ⟨u1, d1⟩ := d1
      clear ho2 hk2 hblk2 hg2 hob
      try simp only [Nat.zero_add]
      go_wp2_with fail
      obtain ⟨w3, hw3⟩ : ∃ w3, (((w2.setCell ⟨mp, 0, none⟩ (.slice A2 k c2)).setCell ⟨mp, 2, none⟩ (.bool false)).setCell ⟨mp, 1, none⟩ (.slice none 0 0)).setCell ⟨mp, 3, none⟩ (.int .i64 0) = w3 := ⟨_, rfl⟩
      rw [hw3]
      have hk3 : Keep (fun i => i = mp) w2 w3 := by
        rw [← hw3]
        exact ((((Keep.refl (fun i => i = mp) w2).setCell (a := ⟨mp, 0, none⟩) (.inl rfl) _).setCell (a := ⟨mp, 2, none⟩) (.inl rfl) _).setCell (a := ⟨mp, 1, none⟩) (.inl rfl) _).setCell (a := ⟨mp, 3, none⟩) (.inl rfl) _
      have hb3 : w3.heap[mp]? = some (.cells #[.slice A2 k c2, .slice none 0 0, .bool false, .int .i64 ((bytesOf (l.take 0) : Nat) : Int)] 38 (0, 0)) := by
        rw [← hw3]
        exact blk_set (blk_set (blk_set (blk_set BL.out 0 _) 2 _) 1 _) 3 _
      have HI0 := Lib.hid (And.intro hb3 hk3)
      clear hk3 hb3 hw3 f0 f1 f2 f3 d0 d1 d2 d3 BL
      go_loopw [6] (fun i wr => ∃ q : Nat, q ≤ k ∧ i = .int .i64 (q : Int) ∧ Hid (wr.heap[mp]? = some (.cells #[.slice A2 k c2, .slice none 0 0, .bool false, .int .i64 ((bytesOf (l.take q) : Nat) : Int)] 38 (0, 0)) ∧ Keep (fun i => i = mp) w2 wr)) (fun i _ => k - (intOf i).toNat)
      case atStart => exact ⟨0, by omega, rfl, HI0⟩
      case round =>
        obtain ⟨q, hq, rfl, HI⟩ := hrel
        obtain ⟨wo, rfl⟩ : ∃ wo : World, wo = wr := ⟨_, rfl⟩
        by_cases hlt : q < k
        · have b1 : decide (q < k) = true := by simpa using hlt
          have sA2 : StrsAt w2 A k l := AZ.out.keep K2.out (fun _ _ => id)
          have sA3 : StrsAt wo A k l := sA2.keep HI.out.2 (fun b hb h' => HD.out b hb (h' ▸ (HXX.out mp).2 (.inl rfl)))
          obtain ⟨b, off, rfl, x0⟩ := sA3.at_ q hlt
          have e3 : wo.cell? ⟨mp, 3, none⟩ = some (.int .i64 ((bytesOf (l.take q) : Nat) : Int)) := by rw [blk_cell HI.out.1]; rfl
          have g3 := blk_free HI.out.1 3
          have hstep : bytesOf (l.take (q + 1)) = bytesOf (l.take q) + (sb (l.getD q [])).size + 16 := by rw [sb_size]; exact bytes_step (by rw [HLEN.out]; exact hlt)
          have hle := bytes_take l (q + 1)
          have hby := HBY.out
          obtain ⟨t, ht⟩ : ∃ t, bytesOf (l.take q) = t := ⟨_, rfl⟩
          obtain ⟨s, hs⟩ : ∃ s, sb (l.getD q []) = s := ⟨_, rfl⟩
          rw [hs] at x0 hstep
          rw [ht] at e3 hstep
          have hts : t + s.size + 16 ≤ 16777216 := by omega
          have HST := Lib.hid hstep
          have HT := Lib.hid ht
          clear hstep hle hby sA2 sA3 hs ht
          go_wp2_with fail
          go_still_tail 14, (by kernel_rfl)
          change wpList _ _ _ _ _ wo.drew
          have y0 : wo.drew.cell? ⟨b, off + q, none⟩ = some (.string s) := x0
          have y3 : wo.drew.cell? ⟨mp, 3, none⟩ = some (.int .i64 (t : Int)) := e3
          have y4 : wo.drew.frozen? ⟨mp, 3, none⟩ = false := g3
          clear x0 e3 g3
          go_wp2_with fail
          go_roundw
          · refine ⟨q + 1, by omega, by go_num, Lib.hid ⟨?_, ?_⟩⟩
            · refine (blk_set HI.out.1 3 (.int .i64 ((t : Int) + (s.size : Int) + 16))).trans ?_
              rw [HST.out, show ((t + s.size + 16 : Nat) : Int) = (t : Int) + (s.size : Int) + 16 by omega]
              rfl
            · exact Keep.trans HI.out.2 (Keep.trans ((Keep.refl (fun i => i = mp) wo).setCell (a := ⟨mp, 3, none⟩) (.inl rfl) _) (keep_draw _ _))
          · simp [intOf]; omega
        · have b1 : decide (q < k) = false := by simpa using hlt
          obtain rfl : q = k := by omega
          go_wp2_with fail
          go_ret
          refine ⟨rfl, ?_⟩
          have hob : ∀ i, (Value.slice A2 q c2).ownBlock = some i → u5w.heap.size ≤ i := by
            intro i hi
            rcases OB.out with h | h
            · rw [h] at hi
              have hi' : some u5w.heap.size = some i := hi
              have := Option.some.inj hi'; omega
            · rw [h] at hi
              have := Option.some.inj hi; omega
          have hs1 := KZ.out.size
          have hmb : MB n wo mp (.slice A2 q c2) (.slice none 0 0) ⟨l, [], false, bytesOf l⟩ := by
            refine ⟨?_, ?_, ⟨rfl, .inl ⟨rfl, rfl⟩⟩, HB.out.low, fun e => by have := hob _ e; omega, by simp [Value.ownBlock], fun k _ => by simp [Value.ownBlock]⟩
            · have := HI.out.1
              rwa [List.take_of_length_le (by rw [HLEN.out]; exact Nat.le_refl _)] at this
            · show wo.ownsRow n _ 1 _ l.length (strs l)
              rw [HLEN.out]
              exact HI.out.2.own O2.out (fun b hb e => by have := hob _ hb; omega)
          refine ⟨_, ⟨_, _, hmb, fun _ => Iff.rfl⟩, Keep.trans (Keep.trans (Keep.mono KZ.out (fun _ => False.elim)) (Keep.mono K2.out (fun _ => False.elim))) (Keep.mono HI.out.2 (fun i hi => (HXX.out i).2 (.inl hi))), fun i hi => ⟨(hmb.lt hi).2, ?_⟩⟩
          rcases hi with rfl | h1 | h1
          · exact .inl ((HXX.out _).2 (.inl rfl))
          · exact .inr (by have := hob _ h1; omega)
          · simp [Value.ownBlock] at h1
    refine AllReadyH.cons rfl (fun Kn hKn => ?_) ?_
    · skip
      go_simp
      refine hKn.out _ _ ?_ (fun hH => ?_)
      · exact ⟨cell_kept ((Keep.refl (fun _ => False) _).alloc' _) hH.1 id, cell_kept ((Keep.refl (fun _ => False) _).alloc' _) hH.2.1 id, cell_kept ((Keep.refl (fun _ => False) _).alloc' _) hH.2.2 id⟩
      clear hKn Kn
      try simp only [Act.put, List.setIfInBounds_toArray, List.set_cons_zero, List.set_cons_succ]
      have mk := cells_new u1w [.string x] 9
      have ks : Keep (fun _ => False) u1w (u1w.alloc (.cells #[.string x] 9)) := (Keep.refl _ _).alloc' _
      have zl : u1w.heap.size < (u1w.alloc (.cells #[.string x] 9)).heap.size := by simp
      obtain ⟨u6w, hU⟩ : ∃ u, u1w.alloc (.cells #[.string x] 9) = u := ⟨_, rfl⟩
      rw [hU] at mk ks zl hH ⊢
      have O30u6w := Lib.hid (ks.own O30u1w.out (fun _ _ => id))
      have C48u6w := Lib.hid mk
      have Ku6w := Lib.hid (Keep.trans Ku1w.out ks); have Nu6w := Lib.hid (Nat.le_trans Nu1w.out ks.size); have Zu6w := Lib.hid zl
      clear mk ks zl hU
      refine wpAnyH_ready (rs := [6]) (by kernel_rfl) (by simp) ?_
      refine AllReadyH.cons rfl (fun Kn hKn => ?_) AllReadyH.nil
      rw [if_pos (by rfl)]
      refine oper_append_src 22 9 (.string ⟨#[]⟩) 16 n Try.strs (.tmp 30) (.tmp 34) rfl (.slice (some ⟨u0w.heap.size, 0, none⟩) 0 0) 0 [] rfl O30u6w.out B m.l.length cB (strs m.l) rfl NOB.out (SB.out.keep Ku6w.out (fun _ _ => id)) (strs_one' _) (by omega) (by decide) Nu6w.out ?_
      intro A6 c6 u7w ho6 hg6 hob6
      try simp only [Nat.zero_add, List.nil_append] at ho6 hob6 ⊢
      have hks : Keep (fun i => i = u0w.heap.size) u6w u7w := (Keep.refl _ _).grown hg6 (fun i e => .inl (by have e' : some u0w.heap.size = some i := e; exact (Option.some.inj e').symm))
      refine hKn.out _ _ ?_ (fun hH => ?_)
      · exact ⟨cell_kept hks hH.1 (fun h => by have h1 := Ku0w.out.size; have h2 := LM.out; simp only at h; omega), cell_kept hks hH.2.1 (fun h => by have h1 := Ku0w.out.size; have h2 := LM.out; simp only at h; omega), cell_kept hks hH.2.2 (fun h => by have h1 := Ku0w.out.size; have h2 := LG.out; simp only at h; omega)⟩
      clear hKn Kn
      try simp only [Act.put, List.setIfInBounds_toArray, List.set_cons_zero, List.set_cons_succ]
      have Ku7w := Lib.hid (Ku6w.out.grown hg6 (fun i e => .inr (by have e' : some u0w.heap.size = some i := e; have h1 := Option.some.inj e'; have h2 := Ku0w.out.size; omega))); have Nu7w := Lib.hid (Nat.le_trans Nu6w.out hg6.size)
      have O35u7w := Lib.hid ho6; have OB6 := Lib.hid hob6
      have C48u7w := Lib.hid (C48u6w.out.keep hks (fun b hb e => by have := Zu1w.out; have := Zu6w.out; have hb' := Option.some.inj hb; rw [← hb'] at e; simp only at e; omega))
      clear ho6 hg6 hob6 hks
      refine wpAnyH_ready (rs := [20]) (by kernel_rfl) (by simp) ?_
      refine AllReadyH.cons rfl (fun Kn hKn => ?_) AllReadyH.nil
      rw [if_pos (by rfl)]
      refine oper_append_src 22 9 (.string ⟨#[]⟩) 16 n Try.strs (.tmp 35) (.tmp 48) rfl (.slice A6 m.l.length c6) m.l.length (strs m.l) rfl O35u7w.out (some ⟨u1w.heap.size, 0, none⟩) 1 1 [.string x] rfl (by intro h; cases h) C48u7w.out (fun u hu => by cases List.mem_singleton.1 hu; rfl) (by omega) (by decide) Nu7w.out ?_
      intro A20 c20 u8w ho20 hg20 hob20
      have lo6 : ∀ i, (Value.slice A6 m.l.length c6).ownBlock = some i → w1.heap.size ≤ i := by
        intro i hi
        rcases OB6.out with h | h
        · rw [h] at hi
          have e' : some u0w.heap.size = some i := hi
          have h1 := Option.some.inj e'; have h2 := Ku0w.out.size; omega
        · rw [h] at hi
          have h1 := Option.some.inj hi; have h2 := Ku6w.out.size; omega
      have hks : Keep (fun i => (Value.slice A6 m.l.length c6).ownBlock = some i) u7w u8w := (Keep.refl _ _).grown hg20 (fun i e => .inl e)
      refine hKn.out _ _ ?_ (fun hH => ?_)
      · exact ⟨cell_kept hks hH.1 (fun h => by have h1 := lo6 _ h; have h2 := LM.out; simp only at h1; omega), cell_kept hks hH.2.1 (fun h => by have h1 := lo6 _ h; have h2 := LM.out; simp only at h1; omega), cell_kept hks hH.2.2 (fun h => by have h1 := lo6 _ h; have h2 := LG.out; simp only at h1; omega)⟩
      clear hKn Kn
      try simp only [Act.put, List.setIfInBounds_toArray, List.set_cons_zero, List.set_cons_succ]
      have Ku8w := Lib.hid (Ku7w.out.grown hg20 (fun i e => .inr (lo6 i e))); have Nu8w := Lib.hid (Nat.le_trans Nu7w.out hg20.size)
      obtain ⟨Aq, cq, eq, hcq⟩ := owns_cells ho20
      injection eq with e1 e2 e3
      subst e1
      have C49 := Lib.hid (show StrsAt u8w A20 (m.l.length + 1) l from (show CellsAt u8w A20 (m.l.length + 1) (strs l) by rw [HLX.out]; exact hcq))
      clear ho20 hg20 hob20 hks lo6 e2 e3 hcq
      refine wpAnyH_ready (rs := [21]) (by kernel_rfl) (by simp) ?_
      refine AllReadyH.cons rfl (fun Kn hKn => ?_) AllReadyH.nil
      go_simp
      have hs49 := same_any (show StrsAt u8w A k l from HA1.out.keep Ku8w.out (fun _ _ => id)) C49.out true (by simp) (ca := c) (cb := c20)
      ((with_reducible refine hs49.mono ?_); rintro e u9w ⟨rfl, q9, hq9⟩)
      refine hKn.out _ _ ?_ (fun hH => ?_)
      · (rw [hq9]; exact hH)
      clear hKn Kn hs49
      try simp only [Act.put, List.setIfInBounds_toArray, List.set_cons_zero, List.set_cons_succ]
      have hkz : Keep (fun _ => False) w u9w := by rw [hq9]; exact Keep.trans (Keep.trans K1.out Ku8w.out) (keep_drewN _ _ _)
      have KZ := Lib.hid hkz
      have BZ := Lib.hid (HB.out.keep KZ.out (fun _ _ => id)); have AZ := Lib.hid (show StrsAt u9w A k l from HA.out.keep KZ.out (fun _ _ => id)); have NZ := Lib.hid (Nat.le_trans hn KZ.out.size)
      clear hkz hq9
      refine wpAnyH_take (i := 22) (v := ?_) rfl (by kernel_rfl) (by kernel_rfl) (by kernel_rfl) (fun _ _ _ h => h) (Or.inl ⟨by rfl, ?_⟩) hH ?_
      rotate_left
      · (intro w'' hSw; (try dsimp only at hSw); go_simp; try with_reducible rfl)
      change wpAnyH _ _ _ _ _ _ _ (Act.put _ (some 5) _) _
      try simp only [Act.put, List.setIfInBounds_toArray, List.set_cons_zero, List.set_cons_succ]
      refine wpAnyH_done (by kernel_rfl) ?_ _
      have hmz : mp < u9w.heap.size := blk_lt BZ.out.blk
      have hnz : n ≤ u9w.heap.size := NZ.out
      clear hH
      go_wp2_with (at_builtin; refine wpList_append_want (by rfl) 22 9 (.string ⟨#[]⟩) 16 n Try.strs (.tmp 52) (.tmp 53) rfl (.slice (some ⟨u9w.heap.size, 0, none⟩) 0 0) 0 [] rfl (by exact own_new u9w 9 #[] 0 n rfl (by decide) hnz) A k c (strs l) rfl HNO.out (AZ.out.alloc _) (strs_one' l) (by omega) (by decide) (by simp; omega) ?_)
      intro A2 c2 w2 ho2 hg2 hob
      try simp only [Nat.zero_add, List.nil_append] at ho2 hob
      have hk2 : Keep (fun _ => False) u9w w2 := ((Keep.refl _ u9w).alloc _).grown hg2 (fun k e => .inr (by have : some u9w.heap.size = some k := e; have := Option.some.inj this; omega))
      have hblk2 := (hk2.block _ hmz id).trans BZ.out.blk
      have f0 := blk_free hblk2 0
      have f1 := blk_free hblk2 1
      have f2 := blk_free hblk2 2
      have f3 := blk_free hblk2 3
      have O2 := Lib.hid ho2; have K2 := Lib.hid hk2; have BL := Lib.hid hblk2; have OB := Lib.hid hob
      have d0 : ∃ u, w2.cell? ⟨mp, 0, none⟩ = some u := ⟨_, by rw [blk_cell hblk2]; rfl⟩
      have d1 : ∃ u, w2.cell? ⟨mp, 1, none⟩ = some u := ⟨_, by rw [blk_cell hblk2]; rfl⟩
      have d2 : w2.cell? ⟨mp, 2, none⟩ = some (.bool m.broken) := by rw [blk_cell hblk2]; rfl
      have d3 : w2.cell? ⟨mp, 3, none⟩ = some (.int .i64 (m.bytes : Int)) := by rw [blk_cell hblk2]; rfl
      obtain ⟨u0, d0⟩ := d0
      obtain ⟨u1, d1⟩ := d1
      clear ho2 hk2 hblk2 hg2 hob
      try simp only [Nat.zero_add]
      go_wp2_with fail
      obtain ⟨w3, hw3⟩ : ∃ w3, (((w2.setCell ⟨mp, 0, none⟩ (.slice A2 k c2)).setCell ⟨mp, 2, none⟩ (.bool false)).setCell ⟨mp, 1, none⟩ (.slice none 0 0)).setCell ⟨mp, 3, none⟩ (.int .i64 0) = w3 := ⟨_, rfl⟩
      rw [hw3]
      have hk3 : Keep (fun i => i = mp) w2 w3 := by
        rw [← hw3]
        exact ((((Keep.refl (fun i => i = mp) w2).setCell (a := ⟨mp, 0, none⟩) (.inl rfl) _).setCell (a := ⟨mp, 2, none⟩) (.inl rfl) _).setCell (a := ⟨mp, 1, none⟩) (.inl rfl) _).setCell (a := ⟨mp, 3, none⟩) (.inl rfl) _
      have hb3 : w3.heap[mp]? = some (.cells #[.slice A2 k c2, .slice none 0 0, .bool false, .int .i64 ((bytesOf (l.take 0) : Nat) : Int)] 38 (0, 0)) := by
        rw [← hw3]
        exact blk_set (blk_set (blk_set (blk_set BL.out 0 _) 2 _) 1 _) 3 _
      have HI0 := Lib.hid (And.intro hb3 hk3)
      clear hk3 hb3 hw3 f0 f1 f2 f3 d0 d1 d2 d3 BL
      go_loopw [6] (fun i wr => ∃ q : Nat, q ≤ k ∧ i = .int .i64 (q : Int) ∧ Hid (wr.heap[mp]? = some (.cells #[.slice A2 k c2, .slice none 0 0, .bool false, .int .i64 ((bytesOf (l.take q) : Nat) : Int)] 38 (0, 0)) ∧ Keep (fun i => i = mp) w2 wr)) (fun i _ => k - (intOf i).toNat)
      case atStart => exact ⟨0, by omega, rfl, HI0⟩
      case round =>
        obtain ⟨q, hq, rfl, HI⟩ := hrel
        obtain ⟨wo, rfl⟩ : ∃ wo : World, wo = wr := ⟨_, rfl⟩
        by_cases hlt : q < k
        · have b1 : decide (q < k) = true := by simpa using hlt
          have sA2 : StrsAt w2 A k l := AZ.out.keep K2.out (fun _ _ => id)
          have sA3 : StrsAt wo A k l := sA2.keep HI.out.2 (fun b hb h' => HD.out b hb (h' ▸ (HXX.out mp).2 (.inl rfl)))
          obtain ⟨b, off, rfl, x0⟩ := sA3.at_ q hlt
          have e3 : wo.cell? ⟨mp, 3, none⟩ = some (.int .i64 ((bytesOf (l.take q) : Nat) : Int)) := by rw [blk_cell HI.out.1]; rfl
          have g3 := blk_free HI.out.1 3
          have hstep : bytesOf (l.take (q + 1)) = bytesOf (l.take q) + (sb (l.getD q [])).size + 16 := by rw [sb_size]; exact bytes_step (by rw [HLEN.out]; exact hlt)
          have hle := bytes_take l (q + 1)
          have hby := HBY.out
          obtain ⟨t, ht⟩ : ∃ t, bytesOf (l.take q) = t := ⟨_, rfl⟩
          obtain ⟨s, hs⟩ : ∃ s, sb (l.getD q []) = s := ⟨_, rfl⟩
          rw [hs] at x0 hstep
          rw [ht] at e3 hstep
          have hts : t + s.size + 16 ≤ 16777216 := by omega
          have HST := Lib.hid hstep
          have HT := Lib.hid ht
          clear hstep hle hby sA2 sA3 hs ht
          go_wp2_with fail
          go_still_tail 14, (by kernel_rfl)
          change wpList _ _ _ _ _ wo.drew
          have y0 : wo.drew.cell? ⟨b, off + q, none⟩ = some (.string s) := x0
          have y3 : wo.drew.cell? ⟨mp, 3, none⟩ = some (.int .i64 (t : Int)) := e3
          have y4 : wo.drew.frozen? ⟨mp, 3, none⟩ = false := g3
          clear x0 e3 g3
          go_wp2_with fail
          go_roundw
          · refine ⟨q + 1, by omega, by go_num, Lib.hid ⟨?_, ?_⟩⟩
            · refine (blk_set HI.out.1 3 (.int .i64 ((t : Int) + (s.size : Int) + 16))).trans ?_
              rw [HST.out, show ((t + s.size + 16 : Nat) : Int) = (t : Int) + (s.size : Int) + 16 by omega]
              rfl
            · exact Keep.trans HI.out.2 (Keep.trans ((Keep.refl (fun i => i = mp) wo).setCell (a := ⟨mp, 3, none⟩) (.inl rfl) _) (keep_draw _ _))
          · simp [intOf]; omega
        · have b1 : decide (q < k) = false := by simpa using hlt
          obtain rfl : q = k := by omega
          go_wp2_with fail
          go_ret
          refine ⟨rfl, ?_⟩
          have hob : ∀ i, (Value.slice A2 q c2).ownBlock = some i → u9w.heap.size ≤ i := by
            intro i hi
            rcases OB.out with h | h
            · rw [h] at hi
              have hi' : some u9w.heap.size = some i := hi
              have := Option.some.inj hi'; omega
            · rw [h] at hi
              have := Option.some.inj hi; omega
          have hs1 := KZ.out.size
          have hmb : MB n wo mp (.slice A2 q c2) (.slice none 0 0) ⟨l, [], false, bytesOf l⟩ := by
            refine ⟨?_, ?_, ⟨rfl, .inl ⟨rfl, rfl⟩⟩, HB.out.low, fun e => by have := hob _ e; omega, by simp [Value.ownBlock], fun k _ => by simp [Value.ownBlock]⟩
            · have := HI.out.1
              rwa [List.take_of_length_le (by rw [HLEN.out]; exact Nat.le_refl _)] at this
            · show wo.ownsRow n _ 1 _ l.length (strs l)
              rw [HLEN.out]
              exact HI.out.2.own O2.out (fun b hb e => by have := hob _ hb; omega)
          refine ⟨_, ⟨_, _, hmb, fun _ => Iff.rfl⟩, Keep.trans (Keep.trans (Keep.mono KZ.out (fun _ => False.elim)) (Keep.mono K2.out (fun _ => False.elim))) (Keep.mono HI.out.2 (fun i hi => (HXX.out i).2 (.inl hi))), fun i hi => ⟨(hmb.lt hi).2, ?_⟩⟩
          rcases hi with rfl | h1 | h1
          · exact .inl ((HXX.out _).2 (.inl rfl))
          · exact .inr (by have := hob _ h1; omega)
          · simp [Value.ownBlock] at h1
    exact AllReadyH.nil
  refine AllReadyH.cons rfl (fun Kn hKn => ?_) ?_
  · skip
    go_simp
    refine hKn.out _ _ ?_ (fun hH => ?_)
    · exact ⟨cell_kept ((Keep.refl (fun _ => False) _).alloc' _) hH.1 id, cell_kept ((Keep.refl (fun _ => False) _).alloc' _) hH.2.1 id, cell_kept ((Keep.refl (fun _ => False) _).alloc' _) hH.2.2 id⟩
    clear hKn Kn
    try simp only [Act.put, List.setIfInBounds_toArray, List.set_cons_zero, List.set_cons_succ]
    have mk := cells_new u0w [.string x] 9
    have ks : Keep (fun _ => False) u0w (u0w.alloc (.cells #[.string x] 9)) := (Keep.refl _ _).alloc' _
    have zl : u0w.heap.size < (u0w.alloc (.cells #[.string x] 9)).heap.size := by simp
    obtain ⟨u10w, hU⟩ : ∃ u, u0w.alloc (.cells #[.string x] 9) = u := ⟨_, rfl⟩
    rw [hU] at mk ks zl hH ⊢
    have C48u10w := Lib.hid mk
    have Ku10w := Lib.hid (Keep.trans Ku0w.out ks); have Nu10w := Lib.hid (Nat.le_trans Nu0w.out ks.size); have Zu10w := Lib.hid zl
    clear mk ks zl hU
    refine wpAnyH_ready (rs := [1]) (by kernel_rfl) (by simp) ?_
    refine AllReadyH.cons rfl (fun Kn hKn => ?_) AllReadyH.nil
    go_simp
    refine hKn.out _ _ ?_ (fun hH => ?_)
    · exact ⟨cell_kept ((Keep.refl (fun _ => False) _).alloc' _) hH.1 id, cell_kept ((Keep.refl (fun _ => False) _).alloc' _) hH.2.1 id, cell_kept ((Keep.refl (fun _ => False) _).alloc' _) hH.2.2 id⟩
    clear hKn Kn
    try simp only [Act.put, List.setIfInBounds_toArray, List.set_cons_zero, List.set_cons_succ]
    have mk := own_new u10w 9 #[] 0 n rfl (by decide) Nu10w.out
    have ks : Keep (fun _ => False) u10w (u10w.alloc (.cells #[] 9)) := (Keep.refl _ _).alloc' _
    have zl : u10w.heap.size < (u10w.alloc (.cells #[] 9)).heap.size := by simp
    obtain ⟨u11w, hU⟩ : ∃ u, u10w.alloc (.cells #[] 9) = u := ⟨_, rfl⟩
    rw [hU] at mk ks zl hH ⊢
    have C48u11w := Lib.hid (C48u10w.out.keep ks (fun _ _ => id))
    have O30u11w := Lib.hid mk
    have Ku11w := Lib.hid (Keep.trans Ku10w.out ks); have Nu11w := Lib.hid (Nat.le_trans Nu10w.out ks.size); have Zu11w := Lib.hid zl
    clear mk ks zl hU
    refine wpAnyH_ready (rs := [6]) (by kernel_rfl) (by simp) ?_
    refine AllReadyH.cons rfl (fun Kn hKn => ?_) AllReadyH.nil
    rw [if_pos (by rfl)]
    refine oper_append_src 22 9 (.string ⟨#[]⟩) 16 n Try.strs (.tmp 30) (.tmp 34) rfl (.slice (some ⟨u10w.heap.size, 0, none⟩) 0 0) 0 [] rfl O30u11w.out B m.l.length cB (strs m.l) rfl NOB.out (SB.out.keep Ku11w.out (fun _ _ => id)) (strs_one' _) (by omega) (by decide) Nu11w.out ?_
    intro A6 c6 u12w ho6 hg6 hob6
    try simp only [Nat.zero_add, List.nil_append] at ho6 hob6 ⊢
    have hks : Keep (fun i => i = u10w.heap.size) u11w u12w := (Keep.refl _ _).grown hg6 (fun i e => .inl (by have e' : some u10w.heap.size = some i := e; exact (Option.some.inj e').symm))
    refine hKn.out _ _ ?_ (fun hH => ?_)
    · exact ⟨cell_kept hks hH.1 (fun h => by have h1 := Ku10w.out.size; have h2 := LM.out; simp only at h; omega), cell_kept hks hH.2.1 (fun h => by have h1 := Ku10w.out.size; have h2 := LM.out; simp only at h; omega), cell_kept hks hH.2.2 (fun h => by have h1 := Ku10w.out.size; have h2 := LG.out; simp only at h; omega)⟩
    clear hKn Kn
    try simp only [Act.put, List.setIfInBounds_toArray, List.set_cons_zero, List.set_cons_succ]
    have Ku12w := Lib.hid (Ku11w.out.grown hg6 (fun i e => .inr (by have e' : some u10w.heap.size = some i := e; have h1 := Option.some.inj e'; have h2 := Ku10w.out.size; omega))); have Nu12w := Lib.hid (Nat.le_trans Nu11w.out hg6.size)
    have O35u12w := Lib.hid ho6; have OB6 := Lib.hid hob6
    have C48u12w := Lib.hid (C48u11w.out.keep hks (fun b hb e => by have := Zu10w.out; have := Zu11w.out; have hb' := Option.some.inj hb; rw [← hb'] at e; simp only at e; omega))
    clear ho6 hg6 hob6 hks
    refine wpAnyH_ready (rs := [20]) (by kernel_rfl) (by simp) ?_
    refine AllReadyH.cons rfl (fun Kn hKn => ?_) AllReadyH.nil
    rw [if_pos (by rfl)]
    refine oper_append_src 22 9 (.string ⟨#[]⟩) 16 n Try.strs (.tmp 35) (.tmp 48) rfl (.slice A6 m.l.length c6) m.l.length (strs m.l) rfl O35u12w.out (some ⟨u0w.heap.size, 0, none⟩) 1 1 [.string x] rfl (by intro h; cases h) C48u12w.out (fun u hu => by cases List.mem_singleton.1 hu; rfl) (by omega) (by decide) Nu12w.out ?_
    intro A20 c20 u13w ho20 hg20 hob20
    have lo6 : ∀ i, (Value.slice A6 m.l.length c6).ownBlock = some i → w1.heap.size ≤ i := by
      intro i hi
      rcases OB6.out with h | h
      · rw [h] at hi
        have e' : some u10w.heap.size = some i := hi
        have h1 := Option.some.inj e'; have h2 := Ku10w.out.size; omega
      · rw [h] at hi
        have h1 := Option.some.inj hi; have h2 := Ku11w.out.size; omega
    have hks : Keep (fun i => (Value.slice A6 m.l.length c6).ownBlock = some i) u12w u13w := (Keep.refl _ _).grown hg20 (fun i e => .inl e)
    refine hKn.out _ _ ?_ (fun hH => ?_)
    · exact ⟨cell_kept hks hH.1 (fun h => by have h1 := lo6 _ h; have h2 := LM.out; simp only at h1; omega), cell_kept hks hH.2.1 (fun h => by have h1 := lo6 _ h; have h2 := LM.out; simp only at h1; omega), cell_kept hks hH.2.2 (fun h => by have h1 := lo6 _ h; have h2 := LG.out; simp only at h1; omega)⟩
    clear hKn Kn
    try simp only [Act.put, List.setIfInBounds_toArray, List.set_cons_zero, List.set_cons_succ]
    have Ku13w := Lib.hid (Ku12w.out.grown hg20 (fun i e => .inr (lo6 i e))); have Nu13w := Lib.hid (Nat.le_trans Nu12w.out hg20.size)
    obtain ⟨Aq, cq, eq, hcq⟩ := owns_cells ho20
    injection eq with e1 e2 e3
    subst e1
    have C49 := Lib.hid (show StrsAt u13w A20 (m.l.length + 1) l from (show CellsAt u13w A20 (m.l.length + 1) (strs l) by rw [HLX.out]; exact hcq))
    clear ho20 hg20 hob20 hks lo6 e2 e3 hcq
    refine wpAnyH_ready (rs := [21]) (by kernel_rfl) (by simp) ?_
    refine AllReadyH.cons rfl (fun Kn hKn => ?_) AllReadyH.nil
    go_simp
    have hs49 := same_any (show StrsAt u13w A k l from HA1.out.keep Ku13w.out (fun _ _ => id)) C49.out true (by simp) (ca := c) (cb := c20)
    ((with_reducible refine hs49.mono ?_); rintro e u14w ⟨rfl, q9, hq9⟩)
    refine hKn.out _ _ ?_ (fun hH => ?_)
    · (rw [hq9]; exact hH)
    clear hKn Kn hs49
    try simp only [Act.put, List.setIfInBounds_toArray, List.set_cons_zero, List.set_cons_succ]
    have hkz : Keep (fun _ => False) w u14w := by rw [hq9]; exact Keep.trans (Keep.trans K1.out Ku13w.out) (keep_drewN _ _ _)
    have KZ := Lib.hid hkz
    have BZ := Lib.hid (HB.out.keep KZ.out (fun _ _ => id)); have AZ := Lib.hid (show StrsAt u14w A k l from HA.out.keep KZ.out (fun _ _ => id)); have NZ := Lib.hid (Nat.le_trans hn KZ.out.size)
    clear hkz hq9
    refine wpAnyH_take (i := 22) (v := ?_) rfl (by kernel_rfl) (by kernel_rfl) (by kernel_rfl) (fun _ _ _ h => h) (Or.inl ⟨by rfl, ?_⟩) hH ?_
    rotate_left
    · (intro w'' hSw; (try dsimp only at hSw); go_simp; try with_reducible rfl)
    change wpAnyH _ _ _ _ _ _ _ (Act.put _ (some 5) _) _
    try simp only [Act.put, List.setIfInBounds_toArray, List.set_cons_zero, List.set_cons_succ]
    refine wpAnyH_done (by kernel_rfl) ?_ _
    have hmz : mp < u14w.heap.size := blk_lt BZ.out.blk
    have hnz : n ≤ u14w.heap.size := NZ.out
    clear hH
    go_wp2_with (at_builtin; refine wpList_append_want (by rfl) 22 9 (.string ⟨#[]⟩) 16 n Try.strs (.tmp 52) (.tmp 53) rfl (.slice (some ⟨u14w.heap.size, 0, none⟩) 0 0) 0 [] rfl (by exact own_new u14w 9 #[] 0 n rfl (by decide) hnz) A k c (strs l) rfl HNO.out (AZ.out.alloc _) (strs_one' l) (by omega) (by decide) (by simp; omega) ?_)
    intro A2 c2 w2 ho2 hg2 hob
    try simp only [Nat.zero_add, List.nil_append] at ho2 hob
    have hk2 : Keep (fun _ => False) u14w w2 := ((Keep.refl _ u14w).alloc _).grown hg2 (fun k e => .inr (by have : some u14w.heap.size = some k := e; have := Option.some.inj this; omega))
    have hblk2 := (hk2.block _ hmz id).trans BZ.out.blk
    have f0 := blk_free hblk2 0
    have f1 := blk_free hblk2 1
    have f2 := blk_free hblk2 2
    have f3 := blk_free hblk2 3
    have O2 := Lib.hid ho2; have K2 := Lib.hid hk2; have BL := Lib.hid hblk2; have OB := Lib.hid hob
    have d0 : ∃ u, w2.cell? ⟨mp, 0, none⟩ = some u := ⟨_, by rw [blk_cell hblk2]; rfl⟩
    have d1 : ∃ u, w2.cell? ⟨mp, 1, none⟩ = some u := ⟨_, by rw [blk_cell hblk2]; rfl⟩
    have d2 : w2.cell? ⟨mp, 2, none⟩ = some (.bool m.broken) := by rw [blk_cell hblk2]; rfl
    have d3 : w2.cell? ⟨mp, 3, none⟩ = some (.int .i64 (m.bytes : Int)) := by rw [blk_cell hblk2]; rfl
    obtain ⟨u0, d0⟩ := d0
    obtain ⟨u1, d1⟩ := d1
    clear ho2 hk2 hblk2 hg2 hob
    try simp only [Nat.zero_add]
    go_wp2_with fail
    obtain ⟨w3, hw3⟩ : ∃ w3, (((w2.setCell ⟨mp, 0, none⟩ (.slice A2 k c2)).setCell ⟨mp, 2, none⟩ (.bool false)).setCell ⟨mp, 1, none⟩ (.slice none 0 0)).setCell ⟨mp, 3, none⟩ (.int .i64 0) = w3 := ⟨_, rfl⟩
    rw [hw3]
    have hk3 : Keep (fun i => i = mp) w2 w3 := by
      rw [← hw3]
      exact ((((Keep.refl (fun i => i = mp) w2).setCell (a := ⟨mp, 0, none⟩) (.inl rfl) _).setCell (a := ⟨mp, 2, none⟩) (.inl rfl) _).setCell (a := ⟨mp, 1, none⟩) (.inl rfl) _).setCell (a := ⟨mp, 3, none⟩) (.inl rfl) _
    have hb3 : w3.heap[mp]? = some (.cells #[.slice A2 k c2, .slice none 0 0, .bool false, .int .i64 ((bytesOf (l.take 0) : Nat) : Int)] 38 (0, 0)) := by
      rw [← hw3]
      exact blk_set (blk_set (blk_set (blk_set BL.out 0 _) 2 _) 1 _) 3 _
    have HI0 := Lib.hid (And.intro hb3 hk3)
    clear hk3 hb3 hw3 f0 f1 f2 f3 d0 d1 d2 d3 BL
    go_loopw [6] (fun i wr => ∃ q : Nat, q ≤ k ∧ i = .int .i64 (q : Int) ∧ Hid (wr.heap[mp]? = some (.cells #[.slice A2 k c2, .slice none 0 0, .bool false, .int .i64 ((bytesOf (l.take q) : Nat) : Int)] 38 (0, 0)) ∧ Keep (fun i => i = mp) w2 wr)) (fun i _ => k - (intOf i).toNat)
    case atStart => exact ⟨0, by omega, rfl, HI0⟩
    case round =>
      obtain ⟨q, hq, rfl, HI⟩ := hrel
      obtain ⟨wo, rfl⟩ : ∃ wo : World, wo = wr := ⟨_, rfl⟩
      by_cases hlt : q < k
      · have b1 : decide (q < k) = true := by simpa using hlt
        have sA2 : StrsAt w2 A k l := AZ.out.keep K2.out (fun _ _ => id)
        have sA3 : StrsAt wo A k l := sA2.keep HI.out.2 (fun b hb h' => HD.out b hb (h' ▸ (HXX.out mp).2 (.inl rfl)))
        obtain ⟨b, off, rfl, x0⟩ := sA3.at_ q hlt
        have e3 : wo.cell? ⟨mp, 3, none⟩ = some (.int .i64 ((bytesOf (l.take q) : Nat) : Int)) := by rw [blk_cell HI.out.1]; rfl
        have g3 := blk_free HI.out.1 3
        have hstep : bytesOf (l.take (q + 1)) = bytesOf (l.take q) + (sb (l.getD q [])).size + 16 := by rw [sb_size]; exact bytes_step (by rw [HLEN.out]; exact hlt)
        have hle := bytes_take l (q + 1)
        have hby := HBY.out
        obtain ⟨t, ht⟩ : ∃ t, bytesOf (l.take q) = t := ⟨_, rfl⟩
        obtain ⟨s, hs⟩ : ∃ s, sb (l.getD q []) = s := ⟨_, rfl⟩
        rw [hs] at x0 hstep
        rw [ht] at e3 hstep
        have hts : t + s.size + 16 ≤ 16777216 := by omega
        have HST := Lib.hid hstep
        have HT := Lib.hid ht
        clear hstep hle hby sA2 sA3 hs ht
        go_wp2_with fail
        go_still_tail 14, (by kernel_rfl)
        change wpList _ _ _ _ _ wo.drew
        have y0 : wo.drew.cell? ⟨b, off + q, none⟩ = some (.string s) := x0
        have y3 : wo.drew.cell? ⟨mp, 3, none⟩ = some (.int .i64 (t : Int)) := e3
        have y4 : wo.drew.frozen? ⟨mp, 3, none⟩ = false := g3
        clear x0 e3 g3
        go_wp2_with fail
        go_roundw
        · refine ⟨q + 1, by omega, by go_num, Lib.hid ⟨?_, ?_⟩⟩
          · refine (blk_set HI.out.1 3 (.int .i64 ((t : Int) + (s.size : Int) + 16))).trans ?_
            rw [HST.out, show ((t + s.size + 16 : Nat) : Int) = (t : Int) + (s.size : Int) + 16 by omega]
            rfl
          · exact Keep.trans HI.out.2 (Keep.trans ((Keep.refl (fun i => i = mp) wo).setCell (a := ⟨mp, 3, none⟩) (.inl rfl) _) (keep_draw _ _))
        · simp [intOf]; omega
      · have b1 : decide (q < k) = false := by simpa using hlt
        obtain rfl : q = k := by omega
        go_wp2_with fail
        go_ret
        refine ⟨rfl, ?_⟩
        have hob : ∀ i, (Value.slice A2 q c2).ownBlock = some i → u14w.heap.size ≤ i := by
          intro i hi
          rcases OB.out with h | h
          · rw [h] at hi
            have hi' : some u14w.heap.size = some i := hi
            have := Option.some.inj hi'; omega
          · rw [h] at hi
            have := Option.some.inj hi; omega
        have hs1 := KZ.out.size
        have hmb : MB n wo mp (.slice A2 q c2) (.slice none 0 0) ⟨l, [], false, bytesOf l⟩ := by
          refine ⟨?_, ?_, ⟨rfl, .inl ⟨rfl, rfl⟩⟩, HB.out.low, fun e => by have := hob _ e; omega, by simp [Value.ownBlock], fun k _ => by simp [Value.ownBlock]⟩
          · have := HI.out.1
            rwa [List.take_of_length_le (by rw [HLEN.out]; exact Nat.le_refl _)] at this
          · show wo.ownsRow n _ 1 _ l.length (strs l)
            rw [HLEN.out]
            exact HI.out.2.own O2.out (fun b hb e => by have := hob _ hb; omega)
        refine ⟨_, ⟨_, _, hmb, fun _ => Iff.rfl⟩, Keep.trans (Keep.trans (Keep.mono KZ.out (fun _ => False.elim)) (Keep.mono K2.out (fun _ => False.elim))) (Keep.mono HI.out.2 (fun i hi => (HXX.out i).2 (.inl hi))), fun i hi => ⟨(hmb.lt hi).2, ?_⟩⟩
        rcases hi with rfl | h1 | h1
        · exact .inl ((HXX.out _).2 (.inl rfl))
        · exact .inr (by have := hob _ h1; omega)
        · simp [Value.ownBlock] at h1
  exact AllReadyH.nil
end Go.Proofs.Ytbmmcdnmbdoglaa
