/- Install: the contracts of a store, in one word. -/
import Derived.Test.YtnhajhejkecihaaDoorMB
import Derived.Deep.MidRow
namespace Go.Proofs.YtnhajhejkecihaaDoor
open Go.RowKit Go.Lib
set_option linter.unusedVariables false

/-- A store that was made since w0; the blocks of C are none of its own. -/
def ST (n : Nat) (w0 : World) (p : Nat) (s : MS) (C : List (Nat × Obj)) (w : World) : Prop := ∃ r, IsStore n w p r s ∧ Since n w0 w ∧ ∀ x ∈ C, w.heap[x.1]? = some x.2 ∧ ¬ r.foot p x.1
section
variable {n : Nat} {w0 w : World} {p : Nat} {s : MS} {C : List (Nat × Obj)}
theorem ST.inv (h : ST n w0 p s C w) : s.Inv := by obtain ⟨r, h1, _⟩ := h; exact h1.inv
theorem ST.since (h : ST n w0 p s C w) : Since n w0 w := by obtain ⟨r, _, h2, _⟩ := h; exact h2
theorem ST.at_ (h : ST n w0 p s C w) {b : Nat} {o : Obj} (hx : (b, o) ∈ C) : w.heap[b]? = some o := by obtain ⟨r, _, _, h3⟩ := h; exact (h3 _ hx).1
theorem ST.low (h : ST n w0 p s C w) : n ≤ w.heap.size := by
  obtain ⟨r, h1, _⟩ := h
  have := h1.low p (.inl rfl)
  have := h1.foot_lt p (.inl rfl)
  omega
theorem ST.step {r r' : SR} {s' : MS} {w' : World} (h1 : IsStore n w p r s) (h2 : Since n w0 w) (h3 : ∀ x ∈ C, w.heap[x.1]? = some x.2 ∧ ¬ r.foot p x.1) (g1 : IsStore n w' p r' s') (g2 : Keep (r.foot p) w w') (g3 : ∀ k, r'.foot p k → r.foot p k ∨ w.heap.size ≤ k) : ST n w0 p s' C w' :=
  ⟨r', g1, Keep.trans h2 (Keep.mono g2 h1.low), fun x hx => ⟨(g2.block _ (blk_lt (h3 x hx).1) (h3 x hx).2).trans (h3 x hx).1, fun hf => by
    rcases g3 _ hf with hf | hf
    · exact (h3 x hx).2 hf
    · have := blk_lt (h3 x hx).1
      omega⟩⟩
theorem ST.later (h : ST n w0 p s C w) {w' : World} (hk : Since w.heap.size w w') : ST n w0 p s C w' := by
  have hl := h.low
  obtain ⟨r, h1, h2, h3⟩ := h
  exact ⟨r, h1.since hk, Keep.trans h2 (Keep.mono hk (fun i hi => Nat.le_trans hl hi)), fun x hx => ⟨(hk.block _ (blk_lt (h3 x hx).1) (by have := blk_lt (h3 x hx).1; omega)).trans (h3 x hx).1, (h3 x hx).2⟩⟩
theorem ST.quiet (h : ST n w0 p s C w) {w' : World} (hk : Keep (fun _ => False) w w') : ST n w0 p s C w' := h.later (Since.of hk)
theorem ST.more (h : ST n w0 p s C w) (o : Obj) : ST n w0 p s ((w.heap.size, o) :: C) (w.alloc o) := by
  have hl := h.low
  obtain ⟨r, h1, h2, h3⟩ := h.quiet ((Keep.refl (fun _ => False) w).alloc' o)
  obtain ⟨r0, h10, h20, h30⟩ := h
  have k := (Keep.refl (fun _ => False) w).alloc' o
  refine ⟨r0, h10.quiet k, Keep.trans h20 (Since.of k), fun x hx => ?_⟩
  rcases List.mem_cons.1 hx with rfl | hx
  · exact ⟨heap_alloc_new w o, fun hf => by have := h10.foot_lt _ hf; simp at this⟩
  · exact ⟨(k.block _ (blk_lt (h30 x hx).1) id).trans (h30 x hx).1, (h30 x hx).2⟩
theorem st_new (w : World) (c : Nat) (hc : 1 ≤ c ∧ c ≤ 4) : Calls Tryd.prog 23 #[.int .i64 c] w fun e w' => ∃ p, e = .returned (.tuple #[.pointer (some ⟨p, 0, none⟩), .int .i64 0]) ∧ ST w.heap.size w p (MS.new c) [] w' :=
  (new_any w c hc).mono fun e w' ⟨p, r, h1, h2, h3⟩ => ⟨p, h1, r, h2, h3, fun x hx => (by cases hx)⟩
theorem st_add (h : ST n w0 p s C w) {b : Bytes} (x : MX) (hb : 0 < b.length ∧ b.length ≤ 4096) (hf : s.all.length < 16) {a : Nat} (hp : s.place b.length = some a) (hnx : s.next < 1000000) :
    Calls Tryd.prog 21 #[.pointer (some ⟨p, 0, none⟩), modV b x] w fun e w' => e = .returned (.tuple #[.int .i64 s.next, .int .i64 0]) ∧ ST n w0 p (s.added b a) C w' := by
  obtain ⟨r, h1, h2, h3⟩ := h
  exact (add_some h1 x hb hf hp hnx).mono fun e w' ⟨g1, r', g2, g3, g4⟩ => ⟨g1, ST.step h1 h2 h3 g2 g3 g4⟩
theorem st_add_none (h : ST n w0 p s C w) {b : Bytes} (x : MX) (hb : 0 < b.length ∧ b.length ≤ 4096) (hf : s.all.length < 16) (hp : s.place b.length = none) :
    Calls Tryd.prog 21 #[.pointer (some ⟨p, 0, none⟩), modV b x] w fun e w' => e = .returned (.tuple #[.int .i64 0, .int .i64 2]) ∧ ST n w0 p s C w' := by
  obtain ⟨r, h1, h2, h3⟩ := id h
  exact (add_none h1 x hb hf hp).mono fun e w' ⟨g1, g3⟩ => ⟨g1, h.later g3⟩
theorem st_enter_none (h : ST n w0 p s C w) {c : Nat} (hc : c < s.inn.length) (id : Int) (hf : s.find id = none) : Calls Tryd.prog 16 #[.pointer (some ⟨p, 0, none⟩), .int .i64 c, .int .i64 id] w fun e w' => e = .returned (.tuple #[.string ⟨#[]⟩, .int .i64 14]) ∧ ST n w0 p s C w' := by
  obtain ⟨r, h1, h2, h3⟩ := h
  exact (enter_none h1 hc id hf).mono fun e w' ⟨g1, g2⟩ => ⟨g1, by subst g2; exact ⟨r, h1, h2, h3⟩⟩
theorem st_enter_stale (h : ST n w0 p s C w) {c : Nat} (hc : c < s.inn.length) (id : Int) {i : Nat} (hf : s.find id = some i) (hin : s.inn.getD c 0 < 0) (ho : (s.all.getD i ME.dflt).owed.getD c false = true) :
    Calls Tryd.prog 16 #[.pointer (some ⟨p, 0, none⟩), .int .i64 c, .int .i64 id] w fun e w' => e = .returned (.tuple #[.string ⟨#[]⟩, .int .i64 40]) ∧ ST n w0 p s C w' := by
  obtain ⟨r, h1, h2, h3⟩ := h
  exact (enter_stale h1 hc id hf hin ho).mono fun e w' ⟨g1, g2⟩ => ⟨g1, by subst g2; exact ⟨r, h1, h2, h3⟩⟩
theorem st_enter_ok (h : ST n w0 p s C w) {c : Nat} (hc : c < s.inn.length) (id : Int) {i : Nat} (hf : s.find id = some i) (hin : s.inn.getD c 0 < 0) (ho : (s.all.getD i ME.dflt).owed.getD c false = false) :
    Calls Tryd.prog 16 #[.pointer (some ⟨p, 0, none⟩), .int .i64 c, .int .i64 id] w fun e w' => e = .returned (.tuple #[.string (sb (s.all.getD i ME.dflt).bytes), .int .i64 0]) ∧ ST n w0 p (s.left c id) C w' := by
  obtain ⟨r, h1, h2, h3⟩ := h
  exact (enter_ok h1 hc id hf hin ho).mono fun e w' ⟨g1, g2, g3⟩ => ⟨g1, ST.step h1 h2 h3 g2 g3 (fun _ h => .inl h)⟩
theorem st_busy (h : ST n w0 p s C w) {c : Nat} (hc : c < s.inn.length) (hin : 0 ≤ s.inn.getD c 0) : Calls Tryd.prog 19 #[.pointer (some ⟨p, 0, none⟩), .int .i64 c] w fun e w' => e = .returned (.int .i64 41) ∧ ST n w0 p s C w' := by
  obtain ⟨r, h1, h2, h3⟩ := h
  exact (safe_busy h1 hc hin).mono fun e w' ⟨g1, g2⟩ => ⟨g1, by subst g2; exact ⟨r, h1, h2, h3⟩⟩
theorem st_safe (h : ST n w0 p s C w) {c : Nat} (hc : c < s.inn.length) (hin : s.inn.getD c 0 < 0) : Calls Tryd.prog 19 #[.pointer (some ⟨p, 0, none⟩), .int .i64 c] w fun e w' => e = .returned (.int .i64 0) ∧ ST n w0 p (s.passed c) C w' := by
  obtain ⟨r, h1, h2, h3⟩ := h
  exact (safe_any h1 hc hin).mono fun e w' ⟨g1, r', g2, g3, g4⟩ => ⟨g1, ST.step h1 h2 h3 g2 g3 g4⟩
theorem st_leave (h : ST n w0 p s C w) {c : Nat} (hc : c < s.inn.length) (hin : 0 ≤ s.inn.getD c 0) : Calls Tryd.prog 17 #[.pointer (some ⟨p, 0, none⟩), .int .i64 c] w fun e w' => e = .returned (.int .i64 0) ∧ ST n w0 p (s.left c (-1)) C w' := by
  obtain ⟨r, h1, h2, h3⟩ := h
  exact (leave_any h1 hc hin).mono fun e w' ⟨g1, g2, g3⟩ => ⟨g1, ST.step h1 h2 h3 g2 g3 (fun _ h => .inl h)⟩
theorem st_drop (h : ST n w0 p s C w) (id : Int) {i : Nat} (hf : s.find id = some i) : Calls Tryd.prog 22 #[.pointer (some ⟨p, 0, none⟩), .int .i64 id] w fun e w' => e = .returned (.int .i64 0) ∧ ST n w0 p (s.dropped i (s.all.getD i ME.dflt)) C w' := by
  obtain ⟨r, h1, h2, h3⟩ := h
  exact (drop_any h1 id hf).mono fun e w' ⟨g1, r', g2, g3, g4⟩ => ⟨g1, ST.step h1 h2 h3 g2 g3 g4⟩
theorem st_free (h : ST n w0 p s C w) : Calls Tryd.prog 13 #[.pointer (some ⟨p, 0, none⟩)] w fun e w' => e = .returned (.int .i64 ((16 * frees (takenB s.all) 256 : Nat) : Int)) ∧ ST n w0 p s C w' := by
  obtain ⟨r, h1, h2, h3⟩ := id h
  exact (free_any h1).mono fun e w' ⟨g1, g2⟩ => ⟨g1, h.later g2⟩
theorem st_live (h : ST n w0 p s C w) : Calls Tryd.prog 11 #[.pointer (some ⟨p, 0, none⟩)] w fun e w' => (∃ A c, e = .returned (.slice A (liveL s.all).length c) ∧ w'.ownsRow w.heap.size 3 1 (.slice A (liveL s.all).length c) (liveL s.all).length (ints (liveL s.all))) ∧ ST n w0 p s C w' := by
  obtain ⟨r, h1, h2, h3⟩ := id h
  exact (live_any h1).mono fun e w' ⟨g1, g2⟩ => ⟨g1, h.later g2⟩
end
end Go.Proofs.YtnhajhejkecihaaDoor
/- Install: Ints, Mod, Act.Module. -/
namespace Go.Proofs.YtnhajhejkecihaaDoor
open Go.RowKit Go.Lib
set_option linter.unusedVariables false
set_option linter.unusedSimpArgs false

set_option maxHeartbeats 2000000 in
theorem mod_small (w : World) (a m : Nat) (hm : 1 ≤ m ∧ m ≤ 100000) (ha : a ≤ 100000) : Calls Tryd.prog 46 #[.int .i64 a, .int .i64 m] w fun e w' => e = .returned (.int .i64 ((a % m : Nat) : Int)) ∧ w = w' := by
  have hr : IntKind.i64.wrap ((a : Int).tmod m) = ((a % m : Nat) : Int) := by
    rw [← Int.ofNat_tmod]
    rw [IntKind.wrap_i64]
    have := Nat.mod_lt a (show 0 < m by omega)
    omega
  have hm0 : ¬ m = 0 := by omega
  have hm1 : ((m : Int) == 0) = false := by simp; omega
  have hneg : decide (((a % m : Nat) : Int) < 0) = false := by simp; omega
  obtain ⟨q, hq⟩ : ∃ q, a % m = q := ⟨_, rfl⟩
  rw [hq] at hr hneg ⊢
  go_enter Tryd.func46, Tryd.ntmps46
  go_wp2_with fail
  go_ret
  refine ⟨?_, rfl⟩
  rw [← hq]
  simp
set_option maxHeartbeats 2000000 in
theorem ints_one_any {w : World} {g g2 c c2 : Nat} {v : Int} (h1 : w.cell? ⟨g, 0, none⟩ = some (.int .i64 v)) (h2 : w.cell? ⟨g2, 0, none⟩ = some (.int .i64 v)) :
    Calls Tryd.prog 10 #[.slice (some ⟨g, 0, none⟩) 1 c, .slice (some ⟨g2, 0, none⟩) 1 c2] w fun e w' => e = .returned (.bool true) ∧ Since w.heap.size w w' := by
  go_enter Tryd.func10, Tryd.ntmps10
  go_wp2_with fail
  go_loopw [5] (fun i wr => ∃ k : Nat, k ≤ 1 ∧ i = .int .i64 (k : Int) ∧ Hid (Keep (fun _ => False) w wr)) (fun i _ => 2 - (RowKit.intOf i).toNat)
  case atStart => exact ⟨0, by omega, rfl, Lib.hid (Keep.refl _ _)⟩
  case round =>
    obtain ⟨k, hk, rfl, KK⟩ := hrel
    obtain ⟨wo, rfl⟩ : ∃ wo : World, wo = wr := ⟨_, rfl⟩
    rcases (show k = 0 ∨ k = 1 by omega) with rfl | rfl
    · have q1 : wo.cell? ⟨g, 0, none⟩ = some (.int .i64 v) := cell_kept KK.out h1 id
      have q2 : wo.cell? ⟨g2, 0, none⟩ = some (.int .i64 v) := cell_kept KK.out h2 id
      have HK := Lib.hid (show Keep (fun _ => False) w wo.drew from Keep.trans KK.out (keep_draw _ wo))
      clear h1 h2
      go_wp2_with fail
      go_region
      go_wp2_with fail
      exact ⟨⟨1, by omega, by go_num, HK⟩, by simp [RowKit.intOf]⟩
    · go_wp2_with fail
      go_ret
      exact ⟨rfl, Since.of KK.out⟩
end Go.Proofs.YtnhajhejkecihaaDoor
/- Install: sanity. -/
namespace Go.Proofs.YtnhajhejkecihaaDoor
open Go.RowKit Go.Lib
set_option linter.unusedVariables false
set_option linter.unusedSimpArgs false

def MX.zero : MX := ⟨.int .i64 0, .int .i64 0, .slice none 0 0, .slice none 0 0, .slice none 0 0, .int .i64 0, .int .i64 0, .slice none 0 0, ⟨rfl, rfl, rfl, rfl, rfl, rfl, rfl, rfl⟩⟩
def sanA : Bytes := [97, 98, 99, 100, 101, 102, 103, 104, 105, 106, 107, 108, 109, 110, 111, 112, 113, 114, 115, 116]
def sanB : Bytes := [49, 50, 51, 52, 53, 54, 55, 56]
def sn1 : MS := (MS.new 2).added sanA 0
def sn2 : MS := sn1.passed 0
def sn3 : MS := sn2.left 0 0
def sn4 : MS := sn3.added sanB 2
def sn5 : MS := sn4.dropped 0 (sn4.all.getD 0 ME.dflt)
def sn6 : MS := sn5.passed 1
def sn7 : MS := sn6.left 0 (-1)
def sn8 : MS := sn7.passed 0
theorem sn_place0 : (MS.new 2).place sanA.length = some 0 := by decide +kernel
theorem sn_find1 : sn1.find 0 = some 0 := by decide +kernel
theorem sn_find2 : sn2.find 0 = some 0 := by decide +kernel
theorem sn_place3 : sn3.place sanB.length = some 2 := by decide +kernel
theorem sn_find4 : sn4.find 0 = some 0 := by decide +kernel
theorem sn_free4 : frees (takenB sn4.all) 256 = 253 := by decide +kernel
theorem sn_free8 : frees (takenB sn8.all) 256 = 255 := by decide +kernel
theorem sn_live8 : liveL sn8.all = [1] := by decide +kernel
theorem sn_a : sn2.all.getD 0 ME.dflt = ⟨0, 0, sanA, false, [false, true]⟩ := rfl
set_option maxRecDepth 100000 in
set_option maxHeartbeats 4000000 in
theorem sanity_any (w : World) : Calls Tryd.prog 8 #[] w fun e w' => e = .returned (.bool true) ∧ Since w.heap.size w w' := by
  have HN := Lib.hid (st_new w 2 (by omega))
  go_enter Tryd.func8, Tryd.ntmps8
  go_wp2_with fail
  ((with_reducible refine (show Calls Tryd.prog _ #[.int .i64 2] w _ from HN.out).mono ?_); rintro e w1 ⟨p, rfl, s0⟩)
  obtain ⟨n, hn⟩ : ∃ n, w.heap.size = n := ⟨_, rfl⟩
  have HNW := Lib.hid hn
  rw [hn] at s0
  have s0' := s0.more (.cells #[.int .i64 0, .int .i64 0, .string (sb sanA), .slice none 0 0, .slice none 0 0, .slice none 0 0, .int .i64 0, .int .i64 0, .slice none 0 0] 43)
  obtain ⟨mb, hmb⟩ : ∃ mb, w1.heap.size = mb := ⟨_, rfl⟩
  rw [hmb] at s0'
  obtain ⟨C, hC⟩ : ∃ C, [(mb, Obj.cells #[.int .i64 0, .int .i64 0, .string (sb sanA), .slice none 0 0, .slice none 0 0, .slice none 0 0, .int .i64 0, .int .i64 0, .slice none 0 0] 43 (0, 0))] = C := ⟨_, rfl⟩
  have HC : Hid ((mb, Obj.cells #[.int .i64 0, .int .i64 0, .string (sb sanA), .slice none 0 0, .slice none 0 0, .slice none 0 0, .int .i64 0, .int .i64 0, .slice none 0 0] 43 (0, 0)) ∈ C) := Lib.hid (by rw [← hC]; exact List.mem_singleton.2 rfl)
  rw [hC] at s0'
  have S0 := Lib.hid s0'
  clear HN hn s0 s0' hC
  go_wp2_with fail
  ((refine (st_add S0.out (b := sanA) MX.zero (by decide) (by decide) sn_place0 (by decide) : Calls Tryd.prog _ #[.pointer (some ⟨p, 0, none⟩), modV sanA MX.zero] _ fun e w' => e = .returned (.tuple #[.int .i64 0, .int .i64 0]) ∧ ST n w p sn1 C w').mono ?_); rintro e w2 ⟨rfl, s1⟩)
  have S1 := Lib.hid s1
  clear S0 s1 hmb
  go_wp2_with fail
  ((refine (st_enter_stale S1.out (c := 0) (by decide) 0 sn_find1 (by decide) (by decide) : Calls Tryd.prog _ #[.pointer (some ⟨p, 0, none⟩), .int .i64 0, .int .i64 0] _ fun e w' => e = .returned (.tuple #[.string ⟨#[]⟩, .int .i64 40]) ∧ ST n w p sn1 C w').mono ?_); rintro e w3 ⟨rfl, s1⟩)
  have S2 := Lib.hid s1
  clear S1 s1
  go_wp2_with fail
  ((refine (st_safe S2.out (c := 0) (by decide) (by decide) : Calls Tryd.prog _ #[.pointer (some ⟨p, 0, none⟩), .int .i64 0] _ fun e w' => e = .returned (.int .i64 0) ∧ ST n w p sn2 C w').mono ?_); rintro e w4 ⟨rfl, s1⟩)
  have S3 := Lib.hid s1
  clear S2 s1
  go_wp2_with fail
  ((refine (st_enter_ok S3.out (c := 0) (by decide) 0 sn_find2 (by decide) (by decide) : Calls Tryd.prog _ #[.pointer (some ⟨p, 0, none⟩), .int .i64 0, .int .i64 0] _ fun e w' => e = .returned (.tuple #[.string (sb sanA), .int .i64 0]) ∧ ST n w p sn3 C w').mono ?_); rintro e w5 ⟨rfl, s1⟩)
  have S4 := Lib.hid s1
  clear S3 s1
  go_wp2_with fail
  ((refine (st_add S4.out (b := sanB) MX.zero (by decide) (by decide) sn_place3 (by decide) : Calls Tryd.prog _ #[.pointer (some ⟨p, 0, none⟩), modV sanB MX.zero] _ fun e w' => e = .returned (.tuple #[.int .i64 1, .int .i64 0]) ∧ ST n w p sn4 C w').mono ?_); rintro e w6 ⟨rfl, s1⟩)
  have S5 := Lib.hid s1
  have m2 : w6.cell? ⟨mb, 2, none⟩ = some (.string (sb sanA)) := (blk_cell (s1.at_ HC.out) 2).trans rfl
  clear S4 s1
  go_wp2_with fail
  ((refine (st_free S5.out : Calls Tryd.prog _ #[.pointer (some ⟨p, 0, none⟩)] _ fun e w' => e = .returned (.int .i64 ((16 * frees (takenB sn4.all) 256 : Nat) : Int)) ∧ ST n w p sn4 C w').mono ?_); rintro e w7 ⟨rfl, s1⟩)
  rw [sn_free4]
  have S6 := Lib.hid s1
  clear S5 s1 m2
  go_wp2_with fail
  ((refine (st_drop S6.out 0 sn_find4 : Calls Tryd.prog _ #[.pointer (some ⟨p, 0, none⟩), .int .i64 0] _ fun e w' => e = .returned (.int .i64 0) ∧ ST n w p sn5 C w').mono ?_); rintro e w8 ⟨rfl, s1⟩)
  have S7 := Lib.hid s1
  clear S6 s1
  go_wp2_with fail
  ((refine (st_safe S7.out (c := 1) (by decide) (by decide) : Calls Tryd.prog _ #[.pointer (some ⟨p, 0, none⟩), .int .i64 1] _ fun e w' => e = .returned (.int .i64 0) ∧ ST n w p sn6 C w').mono ?_); rintro e w9 ⟨rfl, s1⟩)
  have S8 := Lib.hid s1
  clear S7 s1
  go_wp2_with fail
  ((refine (st_busy S8.out (c := 0) (by decide) (by decide) : Calls Tryd.prog _ #[.pointer (some ⟨p, 0, none⟩), .int .i64 0] _ fun e w' => e = .returned (.int .i64 41) ∧ ST n w p sn6 C w').mono ?_); rintro e w10 ⟨rfl, s1⟩)
  have S9 := Lib.hid s1
  clear S8 s1
  go_wp2_with fail
  ((refine (st_leave S9.out (c := 0) (by decide) (by decide) : Calls Tryd.prog _ #[.pointer (some ⟨p, 0, none⟩), .int .i64 0] _ fun e w' => e = .returned (.int .i64 0) ∧ ST n w p sn7 C w').mono ?_); rintro e w11 ⟨rfl, s1⟩)
  have S10 := Lib.hid s1
  clear S9 s1
  go_wp2_with fail
  ((refine (st_safe S10.out (c := 0) (by decide) (by decide) : Calls Tryd.prog _ #[.pointer (some ⟨p, 0, none⟩), .int .i64 0] _ fun e w' => e = .returned (.int .i64 0) ∧ ST n w p sn8 C w').mono ?_); rintro e w12 ⟨rfl, s1⟩)
  have S11 := Lib.hid s1
  clear S10 s1
  go_wp2_with fail
  ((refine (st_free S11.out : Calls Tryd.prog _ #[.pointer (some ⟨p, 0, none⟩)] _ fun e w' => e = .returned (.int .i64 ((16 * frees (takenB sn8.all) 256 : Nat) : Int)) ∧ ST n w p sn8 C w').mono ?_); rintro e w13 ⟨rfl, s1⟩)
  rw [sn_free8]
  have S12 := Lib.hid s1
  clear S11 s1
  go_wp2_with fail
  have hlv := st_live S12.out
  rw [sn_live8] at hlv
  ((refine (hlv : Calls Tryd.prog _ #[.pointer (some ⟨p, 0, none⟩)] _ _).mono ?_); rintro e w14 ⟨⟨A, c, rfl, hrow⟩, s1⟩)
  obtain ⟨g, cc, hgc⟩ := own_some hrow
  injection hgc with hA _ hcc
  subst hA hcc
  have q1 : w14.cell? ⟨g, 0, none⟩ = some (.int .i64 1) := by rw [hrow.cellAt 0 (by simp)]; rfl
  have S13 := Lib.hid s1
  have Q1 := Lib.hid q1
  clear S12 s1 hlv hrow q1
  go_wp2_with fail
  have ka := (Keep.refl (fun _ => False) w14).alloc' (.cells #[.int .i64 1] 3)
  have hio := ints_one_any (w := w14.alloc (.cells #[.int .i64 1] 3)) (g := g) (g2 := w14.heap.size) (c := c) (c2 := 1) (v := 1) (cell_kept ka Q1.out id) ((blk_cell (heap_alloc_new _ _) 0).trans rfl)
  have KA := Lib.hid ka
  have HIO := Lib.hid hio
  clear ka hio Q1
  ((with_reducible refine HIO.out.mono ?_); rintro e w15 ⟨rfl, hk⟩)
  have HF := Lib.hid (S13.out.later (Keep.trans (Since.of KA.out) (Keep.mono hk (fun i hi => by have := KA.out.size; omega))))
  clear HIO KA S13 hk
  go_wp2_with fail
  go_ret
  refine ⟨rfl, ?_⟩
  have := HF.out.since
  rw [← HNW.out] at this
  exact this
end Go.Proofs.YtnhajhejkecihaaDoor
/- Install: Add where there are sixteen modules; the plain law of InstallRoom. -/
namespace Go.Proofs.YtnhajhejkecihaaDoor
open Go.RowKit Go.Lib
set_option linter.unusedVariables false
set_option linter.unusedSimpArgs false

set_option maxRecDepth 100000 in
set_option maxHeartbeats 4000000 in
theorem add_full {n : Nat} {w : World} {p : Nat} {r : SR} {s : MS} (h : IsStore n w p r s) {b : Bytes} (x : MX) (hb : 0 < b.length ∧ b.length ≤ 4096) (hf : s.all.length = 16) :
    Calls Tryd.prog 21 #[.pointer (some ⟨p, 0, none⟩), modV b x] w fun e w' => e = .returned (.tuple #[.int .i64 0, .int .i64 2]) ∧ Since w.heap.size w w' := by
  have H := Lib.hid h
  obtain ⟨L, hL⟩ : ∃ L, b.length = L := ⟨_, rfl⟩
  have hss : (sb b).size = L := by rw [sb_size, hL]
  obtain ⟨sv, hsv⟩ : ∃ sv, sb b = sv := ⟨_, rfl⟩
  rw [hL] at hb
  rw [hsv] at hss
  have bL0 : ¬ L = 0 := by omega
  have bL1 : decide ((4096 : Int) < (L : Int)) = false := by simp; omega
  have bL2 : ¬ 4096 < L := by omega
  unfold modV mcells
  rw [hsv]
  have HNN := Lib.hid hf
  clear h hf hL hsv
  have k0 := (Keep.refl (fun _ => False) w).alloc' (.cells #[x.x0, x.x1, .string sv, x.x2, x.x3, x.x4, x.x5, x.x6, x.x7] 43)
  have H0 := Lib.hid (And.intro (H.out.quiet k0) (And.intro k0 (heap_alloc_new w (.cells #[x.x0, x.x1, .string sv, x.x2, x.x3, x.x4, x.x5, x.x6, x.x7] 43))))
  clear k0
  go_enter Tryd.func21, Tryd.ntmps21
  go_upto_region 1 with (fail)
  obtain ⟨W1, hW1⟩ : ∃ W1, w.alloc (.cells #[x.x0, x.x1, .string sv, x.x2, x.x3, x.x4, x.x5, x.x6, x.x7] 43) = W1 := ⟨_, rfl⟩
  obtain ⟨mb, hmb⟩ : ∃ mb, w.heap.size = mb := ⟨_, rfl⟩
  have HMB := Lib.hid hmb
  rw [hW1, hmb] at H0
  rw [hW1, hmb]
  clear hW1 hmb
  have HC := Lib.hid (closed_any H0.out.1)
  have c2 : W1.cell? ⟨p, 2, none⟩ = some (.slice r.A 16 r.ac) := by have := H0.out.1.c2; rwa [HNN.out] at this
  have m2 : W1.cell? ⟨mb, 2, none⟩ = some (.string sv) := (blk_cell H0.out.2.2 2).trans rfl
  go_wp2_with fail
  ((with_reducible refine HC.out.mono ?_); rintro e w' ⟨rfl, rfl⟩)
  clear HC
  go_wp2_with fail
  go_ret2
  refine ⟨rfl, ?_⟩
  rw [HMB.out]
  have h1 : Since w.heap.size w W1 := Since.of H0.out.2.1
  rw [HMB.out] at h1
  exact h1
theorem st_add_full {n : Nat} {w0 w : World} {p : Nat} {s : MS} {C : List (Nat × Obj)} (h : ST n w0 p s C w) {b : Bytes} (x : MX) (hb : 0 < b.length ∧ b.length ≤ 4096) (hf : s.all.length = 16) :
    Calls Tryd.prog 21 #[.pointer (some ⟨p, 0, none⟩), modV b x] w fun e w' => e = .returned (.tuple #[.int .i64 0, .int .i64 2]) ∧ ST n w0 p s C w' := by
  obtain ⟨r, h1, h2, h3⟩ := id h
  exact (add_full h1 x hb hf).mono fun e w' ⟨g1, g3⟩ => ⟨g1, h.later g3⟩

/-! ### plain -/
/-- j modules of the same length, one behind the other. -/
def rm (b : Bytes) : Nat → MS
  | 0 => MS.new 3
  | j + 1 => (rm b j).added b (lns b.length * j)
theorem rm_len (b : Bytes) : ∀ j, (rm b j).all.length = j
  | 0 => rfl
  | j + 1 => by simp [rm, MS.added, rm_len b j]
theorem rm_next (b : Bytes) : ∀ j, (rm b j).next = j
  | 0 => rfl
  | j + 1 => by simp [rm, MS.added, rm_next b j]
theorem rm_inn (b : Bytes) : ∀ j, (rm b j).inn = [-1, -1, -1]
  | 0 => rfl
  | j + 1 => by
    have := rm_inn b j
    simp only [rm, MS.added]
    exact this
theorem rm_taken (b : Bytes) (hb : 0 < b.length) : ∀ j i, takenB (rm b j).all i = decide (i < lns b.length * j)
  | 0, i => by simp [rm, MS.new, takenB]
  | j + 1, i => by
    simp only [rm, MS.added]
    rw [taken_snoc, rm_taken b hb j i, Nat.mul_succ]
    have e : (⟨(rm b j).next, lns b.length * j, b, false, (rm b j).owing⟩ : ME).on i = (decide (lns b.length * j ≤ i) && decide (i < lns b.length * j + lns b.length)) := rfl
    rw [e, Bool.eq_iff_iff]
    simp only [Bool.or_eq_true, Bool.and_eq_true, decide_eq_true_eq]
    omega
theorem rm_place (b : Bytes) (hb : 0 < b.length) (j : Nat) : (rm b j).place b.length = if lns b.length * j + lns b.length ≤ 256 then some (lns b.length * j) else none :=
  seek_prefix _ _ _ hb (rm_taken b hb j)
theorem rm_at (b : Bytes) : ∀ (j i : Nat), i < j → (rm b j).all.getD i ME.dflt = ⟨i, lns b.length * i, b, false, [true, true, true]⟩
  | 0, i, h => by omega
  | j + 1, i, h => by
    simp only [rm, MS.added]
    by_cases hij : i = j
    · subst hij
      rw [List.getD_eq_getElem?_getD, List.getElem?_append_right (Nat.le_of_eq (rm_len b i)), rm_len]
      simp [MS.owing, rm_inn, rm_next, List.replicate]
    · rw [List.getD_eq_getElem?_getD, List.getElem?_append_left (by rw [rm_len]; omega), ← List.getD_eq_getElem?_getD]
      exact rm_at b j i (by omega)
/-- The first j of them are dropped. -/
def dr (s : MS) (j : Nat) : MS := { s with all := (s.all.take j).map (fun e => { e with dropped := true }) ++ s.all.drop j }
theorem dr_zero (s : MS) : dr s 0 = s := by simp [dr]
theorem dr_len (s : MS) (j : Nat) : (dr s j).all.length = s.all.length := by
  simp [dr]
  omega
theorem dr_at_lt (s : MS) {i j : Nat} (h : i < j) (hj : i < s.all.length) : (dr s j).all.getD i ME.dflt = { s.all.getD i ME.dflt with dropped := true } := by
  unfold dr
  simp only
  rw [getD_eq' _ _ _ (by simp; omega), getD_eq' _ _ _ hj, List.getElem_append_left (by simp; omega)]
  simp
theorem dr_at_ge (s : MS) {i j : Nat} (h : j ≤ i) (hj : i < s.all.length) : (dr s j).all.getD i ME.dflt = s.all.getD i ME.dflt := by
  unfold dr
  simp only
  rw [List.getD_eq_getElem?_getD, List.getD_eq_getElem?_getD, List.getElem?_append_right (by simp; omega), List.getElem?_drop]
  congr 2
  simp
  omega
theorem dr_find (b : Bytes) {j m : Nat} (h : j < m) : (dr (rm b m) j).find (j : Int) = some j := by
  refine find_some (by rw [dr_len, rm_len]; exact h) (fun i hi => ?_) ?_
  · rw [dr_at_lt _ hi (by rw [rm_len]; omega)]
    simp [hit]
  · rw [dr_at_ge _ (Nat.le_refl _) (by rw [rm_len]; exact h), rm_at b m j h]
    simp [hit]
theorem dr_step (b : Bytes) {j m : Nat} (h : j < m) : (dr (rm b m) j).dropped j ((dr (rm b m) j).all.getD j ME.dflt) = dr (rm b m) (j + 1) := by
  have hk : j < (rm b m).all.length := by rw [rm_len]; exact h
  rw [dr_at_ge _ (Nat.le_refl _) hk]
  have ho : (dr (rm b m) j).owing = ((rm b m).all.getD j ME.dflt).owed := by
    rw [rm_at b m j h]
    simp [MS.owing, dr, rm_inn, List.replicate]
  unfold MS.dropped
  rw [ho]
  unfold dr
  simp only
  congr 1
  have hl : (((rm b m).all.take j).map (fun e : ME => { e with dropped := true })).length = j := by simp; omega
  rw [List.set_append_right _ _ (by omega), hl, Nat.sub_self, List.drop_eq_getElem_cons hk, List.set_cons_zero, List.take_succ_eq_append_getElem hk, List.map_append, getD_eq' _ _ _ hk]
  simp
end Go.Proofs.YtnhajhejkecihaaDoor
/- Install: what the reference model of a store is, without its memory, and how the store follows from it: plain functions. -/
namespace Go.Proofs.YtnhajhejkecihaaDoor
open Go.RowKit
set_option linter.unusedVariables false

/-- The reference: all modules that ever were, in order; a module's number is its place. -/
structure RS where
  inn : List Int
  L : List ME
def RS.abs (ρ : RS) : MS := ⟨ρ.inn, ρ.L.filter (fun e => !e.gone), ρ.L.length⟩
def RS.owing (ρ : RS) : List Bool := List.replicate ρ.inn.length true
def RS.added (ρ : RS) (b : Bytes) (p : Nat) : RS := { ρ with L := ρ.L ++ [⟨ρ.L.length, p, b, false, ρ.owing⟩] }
def RS.passed (ρ : RS) (c : Nat) : RS := { ρ with L := ρ.L.map (ME.passed c) }
def RS.put (ρ : RS) (i : Nat) (e : ME) : RS := { ρ with L := ρ.L.set i e }
def RS.left (ρ : RS) (c : Nat) (v : Int) : RS := { ρ with inn := ρ.inn.set c v }
def RS.at_ (ρ : RS) (i : Nat) : ME := ρ.L.getD i ME.dflt
def RS.there (ρ : RS) (id : Int) : Bool := decide (0 ≤ id) && decide (id < (ρ.L.length : Int)) && !(ρ.at_ id.toNat).dropped
/-- Are lines taken? -/
def RS.taken (ρ : RS) (f n : Nat) : Bool := ρ.L.any fun e => !e.gone && (decide (f < e.stop) && decide (e.a < f + n))
structure RS.Ok (ρ : RS) : Prop where
  ids : ∀ i, i < ρ.L.length → (ρ.at_ i).id = i
  owed : ∀ e ∈ ρ.L, e.owed.length = ρ.inn.length
  size : ∀ e ∈ ρ.L, 0 < e.bytes.length ∧ e.stop ≤ 256
  cpus : 1 ≤ ρ.inn.length ∧ ρ.inn.length ≤ 4
  inn : ∀ v ∈ ρ.inn, -1 ≤ v ∧ v < ρ.L.length
  len : ρ.L.length ≤ 1000000

theorem free_set : ∀ (o : List Bool) (c : Nat), o.all (!·) = true → (o.set c false).all (!·) = true
  | [], _, _ => by simp
  | x :: o, 0, h => by simp at h ⊢; exact h.2
  | x :: o, c + 1, h => by
    simp only [List.all_cons, Bool.and_eq_true, List.set_cons_succ] at h ⊢
    exact ⟨h.1, free_set o c h.2⟩
theorem gone_passed {e : ME} (c : Nat) (h : e.gone = true) : (e.passed c).gone = true := by
  unfold ME.gone ME.free ME.passed at *
  simp only [Bool.and_eq_true] at h ⊢
  exact ⟨h.1, free_set _ _ h.2⟩
theorem filter_passed (c : Nat) : ∀ L : List ME, ((L.filter fun e => !e.gone).map (ME.passed c)).filter (fun e => !e.gone) = (L.map (ME.passed c)).filter fun e => !e.gone
  | [] => rfl
  | e :: L => by
    have ih := filter_passed c L
    cases h : e.gone with
    | true =>
      have h2 := gone_passed c h
      simp only [List.filter_cons, h, Bool.not_true, Bool.false_eq_true, if_false, List.map_cons, h2]
      exact ih
    | false =>
      simp only [List.filter_cons, h, Bool.not_false, if_true, List.map_cons]
      rw [ih]
theorem RS.abs_passed (ρ : RS) (c : Nat) : (ρ.passed c).abs = ρ.abs.passed c := by
  unfold RS.abs RS.passed MS.passed
  simp only [List.length_map]
  rw [filter_passed]
theorem RS.abs_added (ρ : RS) (b : Bytes) (p : Nat) : (ρ.added b p).abs = ρ.abs.added b p := by
  unfold RS.abs RS.added MS.added
  simp [ME.gone, RS.owing, MS.owing]
theorem RS.abs_left (ρ : RS) (c : Nat) (v : Int) : (ρ.left c v).abs = ρ.abs.left c v := rfl
/-- Place j of a filtered list is place i of the list. -/
theorem filter_split (p : ME → Bool) {L : List ME} {i : Nat} (hi : i < L.length) (hp : p (L.getD i ME.dflt) = true) :
    ∃ A B : List ME, L = A ++ L.getD i ME.dflt :: B ∧ A.length = i ∧ L.filter p = A.filter p ++ L.getD i ME.dflt :: B.filter p ∧ ∀ e', p e' = true → (L.set i e').filter p = (L.filter p).set (A.filter p).length e' := by
  refine ⟨L.take i, L.drop (i + 1), ?_, by rw [List.length_take]; omega, ?_, ?_⟩
  · rw [List.getD_eq_getElem?_getD, List.getElem?_eq_getElem hi]
    simp
  · have e : L = L.take i ++ L.getD i ME.dflt :: L.drop (i + 1) := by
      rw [List.getD_eq_getElem?_getD, List.getElem?_eq_getElem hi]
      simp
    conv => lhs; rw [e]
    rw [List.filter_append, List.filter_cons, if_pos hp]
  · intro e' he'
    have e : L = L.take i ++ L.getD i ME.dflt :: L.drop (i + 1) := by
      rw [List.getD_eq_getElem?_getD, List.getElem?_eq_getElem hi]
      simp
    have e2 : L.set i e' = L.take i ++ e' :: L.drop (i + 1) := by
      rw [List.set_eq_take_append_cons_drop, if_pos hi]
    have e3 : L.filter p = (L.take i).filter p ++ L.getD i ME.dflt :: (L.drop (i + 1)).filter p := by
      conv => lhs; rw [e]
      rw [List.filter_append, List.filter_cons, if_pos hp]
    rw [e2, e3, List.filter_append, List.filter_cons, if_pos he']
    simp
theorem RS.Ok.find_there {ρ : RS} (h : ρ.Ok) {i : Nat} (hi : i < ρ.L.length) (hd : (ρ.at_ i).dropped = false) :
    ∃ j, ρ.abs.find (i : Int) = some j ∧ j < ρ.abs.all.length ∧ ρ.abs.all.getD j ME.dflt = ρ.at_ i ∧ ∀ e', e'.gone = false → (ρ.put i e').abs = { ρ.abs with all := ρ.abs.all.set j e' } := by
  have hp : (fun e : ME => !e.gone) (ρ.L.getD i ME.dflt) = true := by
    show (!((ρ.at_ i).dropped && _)) = true
    rw [hd]; rfl
  obtain ⟨A, B, h1, h2, h3, h4⟩ := filter_split (fun e : ME => !e.gone) hi hp
  refine ⟨(A.filter fun e => !e.gone).length, ?_, ?_, ?_, ?_⟩
  · unfold MS.find RS.abs
    simp only
    rw [h3, List.findIdx?_append, List.findIdx?_cons]
    have hA : List.findIdx? (fun e : ME => (e.id : Int) == (i : Int) && !e.dropped) (A.filter fun e => !e.gone) = none := by
      rw [List.findIdx?_eq_none_iff]
      intro e he
      have heA := (List.mem_filter.1 he).1
      obtain ⟨k, hk, rfl⟩ := List.getElem_of_mem heA
      have hk2 : k < ρ.L.length := by omega
      have e5 : ρ.at_ k = A[k] := by
        unfold RS.at_
        rw [List.getD_eq_getElem?_getD, h1, List.getElem?_append_left hk, List.getElem?_eq_getElem hk]
        rfl
      have e6 := h.ids k hk2
      rw [e5] at e6
      rw [e6]
      have : ((k : Int) == (i : Int)) = false := by simp; omega
      rw [this]; rfl
    rw [hA]
    have e7 : (ρ.L.getD i ME.dflt).id = i := h.ids i hi
    have e8 : (ρ.L.getD i ME.dflt).dropped = false := hd
    simp only [e7, e8]
    simp
  · unfold RS.abs
    simp only
    rw [h3]
    simp
  · unfold RS.abs
    simp only
    rw [h3, List.getD_eq_getElem?_getD, List.getElem?_append_right (Nat.le_refl _), Nat.sub_self]
    rfl
  · intro e' he'
    unfold RS.abs RS.put
    simp only [List.length_set]
    rw [h4 e' (by rw [he']; rfl)]
theorem RS.Ok.find_none {ρ : RS} (h : ρ.Ok) {id : Int} (hd : ρ.there id = false) : ρ.abs.find id = none := by
  unfold MS.find
  rw [List.findIdx?_eq_none_iff]
  intro e he
  have heL := (List.mem_filter.1 he).1
  obtain ⟨k, hk, rfl⟩ := List.getElem_of_mem heL
  have e5 : ρ.at_ k = ρ.L[k] := by
    unfold RS.at_
    rw [List.getD_eq_getElem?_getD, List.getElem?_eq_getElem hk]
    rfl
  have e6 := h.ids k hk
  rw [← e5]
  by_cases hkid : (k : Int) = id
  · subst hkid
    unfold RS.there at hd
    simp only [Int.toNat_natCast] at hd
    have h1 : decide ((0 : Int) ≤ (k : Int)) = true := by simp
    have h2 : decide ((k : Int) < (ρ.L.length : Int)) = true := by simp; exact hk
    rw [h1, h2] at hd
    rw [show (!(ρ.at_ k).dropped) = false by simpa using hd, Bool.and_false]
  · rw [e6]
    have : ((k : Int) == id) = false := by simpa using hkid
    rw [this]; rfl
theorem RS.there_at {ρ : RS} {id : Int} (h : ρ.there id = true) : ∃ i : Nat, id = (i : Int) ∧ i < ρ.L.length ∧ (ρ.at_ i).dropped = false := by
  unfold RS.there at h
  simp only [Bool.and_eq_true, decide_eq_true_eq, Bool.not_eq_true'] at h
  exact ⟨id.toNat, by omega, by omega, h.2⟩
theorem some_free (e : ME) : e.owed.any (·) = !e.free := by
  unfold ME.free
  induction e.owed with
  | nil => rfl
  | cons x l ih => simp only [List.any_cons, List.all_cons, ih]; cases x <;> simp
theorem RS.live_abs (ρ : RS) : liveL ρ.abs.all = (ρ.L.filter ME.lives).map fun e => (e.id : Int) := by
  unfold liveL RS.abs
  simp only
  rw [List.filter_filter]
  congr 2
  funext e
  unfold ME.lives ME.gone
  cases e.dropped <;> cases e.free <;> rfl
theorem RS.taken_abs (ρ : RS) (k : Nat) : ρ.taken k 1 = takenB ρ.abs.all k := by
  unfold RS.taken takenB RS.abs
  simp only
  rw [List.any_filter]
  congr 1
  funext e
  unfold ME.on
  have : decide (e.a < k + 1) = decide (e.a ≤ k) := by by_cases h : e.a ≤ k <;> simp [h] <;> omega
  rw [this, Bool.and_comm (decide (k < e.stop))]
theorem RS.Ok.taken_barred {ρ : RS} (h : ρ.Ok) (f n : Nat) (hn : 0 < n) : ρ.taken f n = true ↔ barred (takenB ρ.abs.all) n f := by
  unfold RS.taken barred takenB RS.abs
  simp only [List.any_eq_true, Bool.and_eq_true, Bool.not_eq_true', decide_eq_true_eq]
  constructor
  · rintro ⟨e, he, hg, h1, h2⟩
    refine ⟨max f e.a, by omega, by omega, e, List.mem_filter.2 ⟨he, by simp [hg]⟩, ?_⟩
    have := (h.size e he).1
    unfold ME.on
    simp only [Bool.and_eq_true, decide_eq_true_eq]
    refine ⟨by omega, ?_⟩
    have : e.a < e.stop := by unfold ME.stop lns; omega
    omega
  · rintro ⟨i, h1, h2, e, he, ho⟩
    obtain ⟨he1, he2⟩ := List.mem_filter.1 he
    unfold ME.on at ho
    simp only [Bool.and_eq_true, decide_eq_true_eq] at ho
    exact ⟨e, he1, by simpa using he2, by omega, by omega⟩
theorem lns_pos {n : Nat} (h : 0 < n) : 0 < lns n := by unfold lns; omega
theorem RS.Ok.place_some {ρ : RS} (h : ρ.Ok) {len p : Nat} (hl : 0 < len) (hp : ρ.abs.place len = some p) :
    p + lns len ≤ 256 ∧ ρ.taken p (lns len) = false ∧ ∀ q, q < p → ρ.taken q (lns len) = true := by
  have h1 := seek_spec _ _ hl 256 0 0 p (by omega) (fun i _ h => by omega) (by omega) hp
  have h2 := (seek_least (takenB ρ.abs.all) len hl 256 0 0 (by omega) (by omega) (fun q hq => by omega)).1 p hp
  refine ⟨by omega, ?_, fun q hq => (h.taken_barred _ _ (lns_pos hl)).2 (h2 q hq)⟩
  cases ht : ρ.taken p (lns len) with
  | false => rfl
  | true =>
    obtain ⟨i, h3, h4, h5⟩ := (h.taken_barred _ _ (lns_pos hl)).1 ht
    rw [h1.2 i h3 h4] at h5
    cases h5
theorem RS.Ok.place_none {ρ : RS} (h : ρ.Ok) {len : Nat} (hl : 0 < len) (hp : ρ.abs.place len = none) : ∀ q, q + lns len ≤ 256 → ρ.taken q (lns len) = true := by
  have h2 := (seek_least (takenB ρ.abs.all) len hl 256 0 0 (by omega) (by omega) (fun q hq => by omega)).2 hp
  exact fun q hq => (h.taken_barred _ _ (lns_pos hl)).2 (h2 q (by omega))
/-- How many modules are not gone. -/
def RS.many (ρ : RS) : Nat := ρ.L.countP fun e => !e.gone
theorem RS.many_abs (ρ : RS) : ρ.abs.all.length = ρ.many := by
  unfold RS.abs RS.many
  simp only
  rw [List.countP_eq_length_filter]
end Go.Proofs.YtnhajhejkecihaaDoor
/- Install: the reference store in memory. -/
namespace Go.Proofs.YtnhajhejkecihaaDoor
open Go.RowKit Go.Lib
set_option linter.unusedVariables false

/-- A module of the reference, as its row's cells say. -/
structure RE where
  b : Bytes
  x : MX
  a : Nat
  d : Bool
  g : Bool
  v : Value
def RE.cells (r : RE) : List Value := [r.x.x0, r.x.x1, .string (sb r.b), r.x.x2, r.x.x3, r.x.x4, r.x.x5, r.x.x6, r.x.x7, .int .i64 ((16 * r.a : Nat) : Int), .bool r.d, .bool r.g, r.v]
def RE.dflt : RE := ⟨[], MX.dflt, 0, false, false, undef⟩
def rowR : List RE → List Value
  | [] => []
  | r :: R => r.cells ++ rowR R
theorem re_length (r : RE) : r.cells.length = 13 := rfl
theorem rowR_length : ∀ R : List RE, (rowR R).length = R.length * 13
  | [] => rfl
  | r :: R => by rw [rowR, List.length_append, re_length, rowR_length R, List.length_cons]; omega
theorem rowR_append : ∀ R S : List RE, rowR (R ++ S) = rowR R ++ rowR S
  | [], _ => rfl
  | r :: R, S => by rw [List.cons_append, rowR, rowR, rowR_append R S, List.append_assoc]
theorem rowR_one (r : RE) : rowR [r] = r.cells := by rw [rowR, rowR, List.append_nil]
theorem rowR_at : ∀ (R : List RE) (k i : Nat), k < R.length → i < 13 → (rowR R)[k * 13 + i]? = some ((R.getD k RE.dflt).cells.getD i undef)
  | [], _, _, h, _ => by simp at h
  | r :: R, 0, i, _, hi => by
    rw [rowR, Nat.zero_mul, Nat.zero_add, List.getElem?_append_left (by rw [re_length]; exact hi)]
    rw [List.getD_cons_zero, List.getD_eq_getElem?_getD, List.getElem?_eq_getElem (by rw [re_length]; exact hi)]
    rfl
  | r :: R, k + 1, i, hk, hi => by
    rw [rowR, List.getElem?_append_right (by rw [re_length]; omega), re_length, show (k + 1) * 13 + i - 13 = k * 13 + i by omega, rowR_at R k i (by simpa using hk) hi]
    rfl
theorem rowR_set : ∀ (R : List RE) (k i : Nat) (v : Value) (r' : RE), k < R.length → i < 13 → r'.cells = (R.getD k RE.dflt).cells.set i v → rowR (R.set k r') = (rowR R).set (k * 13 + i) v
  | [], _, _, _, _, h, _, _ => by simp at h
  | r :: R, 0, i, v, r', _, hi, he => by
    rw [List.set_cons_zero, rowR, rowR, Nat.zero_mul, Nat.zero_add, List.set_append_left _ _ (by rw [re_length]; exact hi), he]
    rfl
  | r :: R, k + 1, i, v, r', hk, hi, he => by
    rw [List.set_cons_succ, rowR, rowR, List.set_append_right _ _ (by rw [re_length]; omega), re_length, show (k + 1) * 13 + i - 13 = k * 13 + i by omega, rowR_set R k i v r' (by simpa using hk) hi he]
def bools (l : List Bool) : List Value := l.map .bool
theorem bools_length (l : List Bool) : (bools l).length = l.length := by simp [bools]
theorem bools_one (l : List Bool) : ∀ u ∈ bools l, u.oneCell' = true := by
  intro u hu
  obtain ⟨_, _, rfl⟩ := List.mem_map.1 hu
  rfl
structure Fits (w : World) (e : ME) (r : RE) : Prop where
  b : r.b = e.bytes
  a : r.a = e.a
  d : r.d = e.dropped
  g : r.g = e.gone
  own : w.ownsRow 0 4 1 r.v e.owed.length (bools e.owed)
  one : r.cells.toArray.all (·.oneCell') = true
structure RR where
  A : Option Addr
  ac : Nat
  I : Option Addr
  ic : Nat
  R : List RE
def RR.foot (u : RR) (q k : Nat) : Prop := k = q ∨ (∃ a, u.A = some a ∧ k = a.block) ∨ (∃ a, u.I = some a ∧ k = a.block) ∨ ∃ r ∈ u.R, r.v.ownBlock = some k
structure IsRef (n : Nat) (w : World) (q : Nat) (u : RR) (ρ : RS) : Prop where
  hdr : w.heap[q]? = some (.cells #[.slice u.A ρ.L.length u.ac, .slice u.I ρ.inn.length u.ic] 35 (0, 0))
  row : w.ownsRow 0 76 13 (.slice u.A ρ.L.length u.ac) ρ.L.length (rowR u.R)
  inn : w.ownsRow 0 3 1 (.slice u.I ρ.inn.length u.ic) ρ.inn.length (ints ρ.inn)
  fits : ∀ i, i < ρ.L.length → Fits w (ρ.at_ i) (u.R.getD i RE.dflt)
  apart : ∀ i j, i < j → j < ρ.L.length → (u.R.getD i RE.dflt).v.ownBlock ≠ (u.R.getD j RE.dflt).v.ownBlock
  low : ∀ k, u.foot q k → n ≤ k
  ok : ρ.Ok
theorem ob_slice {A : Option Addr} {n c k : Nat} : (Value.slice A n c).ownBlock = some k ↔ ∃ a, A = some a ∧ k = a.block := by
  cases A with
  | none => simp [Value.ownBlock]
  | some a => simp [Value.ownBlock, eq_comm]
section
variable {n : Nat} {w w' : World} {q : Nat} {u : RR} {ρ : RS}
theorem IsRef.rlen (h : IsRef n w q u ρ) : u.R.length = ρ.L.length := by
  have := h.row.1
  rw [rowR_length] at this
  omega
theorem IsRef.at_own (h : IsRef n w q u ρ) {i : Nat} (hi : i < ρ.L.length) : u.R.getD i RE.dflt ∈ u.R := getD_mem (by rw [h.rlen]; exact hi)
theorem RS.at_mem {ρ : RS} {i : Nat} (hi : i < ρ.L.length) : ρ.at_ i ∈ ρ.L := getD_mem hi
theorem IsRef.foot_lt (h : IsRef n w q u ρ) : ∀ k, u.foot q k → k < w.heap.size := by
  rintro k (rfl | hk | hk | ⟨r, hr, hk⟩)
  · exact blk_lt h.hdr
  · exact own_lt h.row _ (ob_slice.2 hk)
  · exact own_lt h.inn _ (ob_slice.2 hk)
  · obtain ⟨i, hi, rfl⟩ := List.getElem_of_mem hr
    have hf := h.fits i (by rw [← h.rlen]; exact hi)
    rw [List.getD_eq_getElem?_getD, List.getElem?_eq_getElem hi] at hf
    exact own_lt hf.own _ hk
theorem Fits.keep {F : Nat → Prop} {e : ME} {r : RE} (h : Fits w e r) (hk : Keep F w w') (hF : ∀ k, r.v.ownBlock = some k → ¬ F k) : Fits w' e r := ⟨h.b, h.a, h.d, h.g, hk.own h.own hF, h.one⟩
theorem IsRef.keep {F : Nat → Prop} (h : IsRef n w q u ρ) (hk : Keep F w w') (hF : ∀ k, u.foot q k → ¬ F k) : IsRef n w' q u ρ :=
  ⟨(hk.block q (blk_lt h.hdr) (hF q (.inl rfl))).trans h.hdr, hk.own h.row (fun k e => hF _ (.inr (.inl (ob_slice.1 e)))), hk.own h.inn (fun k e => hF _ (.inr (.inr (.inl (ob_slice.1 e))))),
    fun i hi => (h.fits i hi).keep hk (fun k e => hF _ (.inr (.inr (.inr ⟨_, h.at_own hi, e⟩)))), h.apart, h.low, h.ok⟩
theorem IsRef.since (h : IsRef n w q u ρ) (hk : Since w.heap.size w w') : IsRef n w' q u ρ := h.keep hk (fun k hf => by have := h.foot_lt k hf; omega)
theorem IsRef.quiet (h : IsRef n w q u ρ) (hk : Keep (fun _ => False) w w') : IsRef n w' q u ρ := h.keep hk (fun _ _ => id)
theorem IsRef.c0 (h : IsRef n w q u ρ) : w.cell? ⟨q, 0, none⟩ = some (.slice u.A ρ.L.length u.ac) := (blk_cell h.hdr 0).trans rfl
theorem IsRef.c1 (h : IsRef n w q u ρ) : w.cell? ⟨q, 1, none⟩ = some (.slice u.I ρ.inn.length u.ic) := (blk_cell h.hdr 1).trans rfl
/-- The row's cells. -/
theorem IsRef.rows (h : IsRef n w q u ρ) (hk : 0 < ρ.L.length) : ∃ g, u.A = some ⟨g, 0, none⟩ ∧ (∃ cur, w.heap[g]? = some (.cells cur 76 (0, 0))) ∧ ∀ k i, k < ρ.L.length → i < 13 → w.cell? ⟨g, k * 13 + i, none⟩ = some ((u.R.getD k RE.dflt).cells.getD i undef) := by
  rcases h.row.2 with ⟨_, h2⟩ | ⟨g, cap, cur, h1, _, h3, h4, _, h6, h7⟩
  · omega
  · injection h1 with h1 _ _
    refine ⟨g, h1, ⟨cur, h3⟩, fun k i hk hi => ?_⟩
    rw [blk_cell h3, ← rowR_at u.R k i (by rw [h.rlen]; exact hk) hi, ← h7, List.getElem?_take_of_lt (by omega)]
    simp
/-- The processors' cells. -/
theorem IsRef.cpus (h : IsRef n w q u ρ) : ∃ b, u.I = some ⟨b, 0, none⟩ ∧ (∃ cur, w.heap[b]? = some (.cells cur 3 (0, 0))) ∧ ∀ c, c < ρ.inn.length → w.cell? ⟨b, c, none⟩ = some (.int .i64 (ρ.inn.getD c 0)) := by
  have hc := h.ok.cpus
  rcases h.inn.2 with ⟨_, h2⟩ | ⟨g, cap, cur, h1, _, h3, h4, _, h6, h7⟩
  · omega
  · injection h1 with h1 _ _
    refine ⟨g, h1, ⟨cur, h3⟩, fun c hc => ?_⟩
    have e1 : (cur.toList.take (ρ.inn.length * 1))[c]? = (ints ρ.inn)[c]? := by rw [h7]
    rw [List.getElem?_take_of_lt (by omega)] at e1
    rw [blk_cell h3, ← Array.getElem?_toList, e1]
    simp [ints, List.getD_eq_getElem?_getD, List.getElem?_eq_getElem hc]
/-- What a module owes. -/
theorem Fits.owes {e : ME} {r : RE} (h : Fits w e r) (hp : 0 < e.owed.length) : ∃ o oc, r.v = .slice (some ⟨o, 0, none⟩) e.owed.length oc ∧ (∃ cur, w.heap[o]? = some (.cells cur 4 (0, 0))) ∧ ∀ c, c < e.owed.length → w.cell? ⟨o, c, none⟩ = some (.bool (e.owed.getD c false)) := by
  rcases h.own.2 with ⟨_, h2⟩ | ⟨g, cap, cur, h1, _, h3, h4, _, h6, h7⟩
  · omega
  · refine ⟨g, cap, h1, ⟨cur, h3⟩, fun c hc => ?_⟩
    have e1 : (cur.toList.take (e.owed.length * 1))[c]? = (bools e.owed)[c]? := by rw [h7]
    rw [List.getElem?_take_of_lt (by omega)] at e1
    rw [blk_cell h3, ← Array.getElem?_toList, e1]
    simp [bools, List.getD_eq_getElem?_getD, List.getElem?_eq_getElem hc]
end
end Go.Proofs.YtnhajhejkecihaaDoor
/- Install: the reference's cpu, there, lines, some. -/
namespace Go.Proofs.YtnhajhejkecihaaDoor
open Go.RowKit Go.Lib
set_option linter.unusedVariables false

theorem rlines_any (w : World) (L : Nat) (hL : L ≤ 1000000) : Calls Tryd.prog 57 #[.int .i64 L] w fun e w' => e = .returned (.int .i64 ((lns L : Nat) : Int)) ∧ w = w' := by
  have e2 : ((L : Int) + 15) / 16 = (lns L : Int) := by unfold lns; omega
  go_enter Tryd.func57, Tryd.ntmps57
  go_wp2_with fail
  go_ret
  exact ⟨rfl, rfl⟩
def RS.cpu (ρ : RS) (c : Int) : Bool := decide (0 ≤ c) && decide (c < (ρ.inn.length : Int))
set_option maxRecDepth 100000 in
theorem rcpu_any {n : Nat} {w : World} {q : Nat} {u : RR} {ρ : RS} (h : IsRef n w q u ρ) (c : Int) : Calls Tryd.prog 66 #[.pointer (some ⟨q, 0, none⟩), .int .i64 c] w fun e w' => e = .returned (.bool (ρ.cpu c)) ∧ w = w' := by
  have c1 := h.c1
  unfold RS.cpu
  clear h
  by_cases h0 : 0 ≤ c
  · obtain ⟨c, rfl⟩ := Int.eq_ofNat_of_zero_le h0
    by_cases h1 : c < ρ.inn.length
    · have hb : decide (c < ρ.inn.length) = true := by simpa using h1
      have e : (decide ((0 : Int) ≤ (c : Int)) && decide ((c : Int) < (ρ.inn.length : Int))) = true := by simpa using h1
      rw [e]
      clear e
      go_enter Tryd.func66, Tryd.ntmps66
      go_wp2_with fail
      go_ret
      exact ⟨rfl, rfl⟩
    · have hb : decide (c < ρ.inn.length) = false := by simpa using h1
      have e : (decide ((0 : Int) ≤ (c : Int)) && decide ((c : Int) < (ρ.inn.length : Int))) = false := by simp; omega
      rw [e]
      clear e
      go_enter Tryd.func66, Tryd.ntmps66
      go_wp2_with fail
      go_ret
      exact ⟨rfl, rfl⟩
  · have hb : decide (c < 0) = true := by simp; omega
    have hb2 : decide (0 ≤ c) = false := by simp; omega
    rw [hb2, Bool.false_and]
    go_enter Tryd.func66, Tryd.ntmps66
    go_wp2_with fail
    go_ret
    exact ⟨rfl, rfl⟩
set_option maxRecDepth 100000 in
theorem rthere_any {n : Nat} {w : World} {q : Nat} {u : RR} {ρ : RS} (h : IsRef n w q u ρ) (c : Int) : Calls Tryd.prog 67 #[.pointer (some ⟨q, 0, none⟩), .int .i64 c] w fun e w' => e = .returned (.bool (ρ.there c)) ∧ w = w' := by
  have c0 := h.c0
  have hl := h.ok.len
  by_cases h0 : 0 ≤ c
  · obtain ⟨c, rfl⟩ := Int.eq_ofNat_of_zero_le h0
    by_cases h1 : c < ρ.L.length
    · have hb : decide (c < ρ.L.length) = true := by simpa using h1
      obtain ⟨g, hA, _, hc⟩ := h.rows (by omega)
      have hd : (u.R.getD c RE.dflt).cells.getD 10 undef = .bool (ρ.at_ c).dropped := by
        rw [← (h.fits c h1).d]; rfl
      have q10 := hc c 10 h1 (by omega)
      rw [hd] at q10
      rw [hA] at c0
      have e : ρ.there (c : Int) = !(ρ.at_ c).dropped := by
        unfold RS.there
        have e1 : decide ((0 : Int) ≤ (c : Int)) = true := by simp
        have e2 : decide ((c : Int) < (ρ.L.length : Int)) = true := by simpa using h1
        rw [e1, e2]; rfl
      rw [e]
      obtain ⟨d, hdd⟩ : ∃ d, (ρ.at_ c).dropped = d := ⟨_, rfl⟩
      rw [hdd] at q10 ⊢
      clear h hc hd hA e hdd
      cases d <;> (
        go_enter Tryd.func67, Tryd.ntmps67
        go_wp2_with fail
        go_ret
        exact ⟨rfl, rfl⟩)
    · have hb : decide (c < ρ.L.length) = false := by simpa using h1
      have e : ρ.there (c : Int) = false := by
        unfold RS.there
        have e2 : decide ((c : Int) < (ρ.L.length : Int)) = false := by simp; omega
        rw [e2, Bool.and_false, Bool.false_and]
      rw [e]
      clear e h
      go_enter Tryd.func67, Tryd.ntmps67
      go_wp2_with fail
      go_ret
      exact ⟨rfl, rfl⟩
  · have hb : decide (c < 0) = true := by simp; omega
    have e : ρ.there c = false := by
      unfold RS.there
      have hb2 : decide (0 ≤ c) = false := by simp; omega
      rw [hb2, Bool.false_and, Bool.false_and]
    rw [e]
    clear e h
    go_enter Tryd.func67, Tryd.ntmps67
    go_wp2_with fail
    go_ret
    exact ⟨rfl, rfl⟩
set_option maxRecDepth 100000 in
set_option maxHeartbeats 1000000 in
/-- Does one of some bools hold? -/
theorem rsome_any (w : World) (o k c : Nat) (l : List Bool) (hl : l.length = k) (hk : k ≤ 1000) (hc : ∀ j, j < k → w.cell? ⟨o, j, none⟩ = some (.bool (l.getD j false))) : Calls Tryd.prog 28 #[.slice (some ⟨o, 0, none⟩) k c] w fun e w' => e = .returned (.bool (l.any (·))) ∧ w = w' := by
  have HC := Lib.hid hc
  have hlh := Lib.hid hl
  have h0 := Lib.hid (show l.take 0 = List.replicate 0 false from rfl)
  obtain ⟨r, hr⟩ : ∃ r, l.any (·) = r := ⟨_, rfl⟩
  rw [hr]
  have HR := Lib.hid hr
  clear hc hl hr
  go_enter Tryd.func28, Tryd.ntmps28
  go_wp2_with fail
  go_loopw [3] (fun i wr => ∃ j : Nat, j ≤ k ∧ i = .int .i64 (j : Int) ∧ Hid (l.take j = List.replicate j false) ∧ Hid (w = wr)) (fun i _ => k + 1 - (RowKit.intOf i).toNat)
  case atStart => exact ⟨0, Nat.zero_le _, rfl, h0, Lib.hid rfl⟩
  case round =>
    obtain ⟨j, hj, rfl, HT, HW⟩ := hrel
    obtain rfl := HW.out
    by_cases hlt : j < k
    · have hb : decide (j < k) = true := by simpa using hlt
      have q1 := HC.out j hlt
      have hjl : j < l.length := by rw [hlh.out]; exact hlt
      have hge : l.getD j false = l[j] := by rw [List.getD_eq_getElem?_getD, List.getElem?_eq_getElem hjl]; rfl
      cases hx : l.getD j false with
      | true =>
        rw [hx] at q1
        have hany : l.any (·) = true := List.any_eq_true.2 ⟨_, List.getElem_mem hjl, by rw [← hge, hx]⟩
        have HA := Lib.hid hany
        clear hx hge hany
        go_wp2_with fail
        go_ret
        exact ⟨by rw [← HR.out, HA.out]; rfl, rfl⟩
      | false =>
        rw [hx] at q1
        have HN := Lib.hid (show l.take (j + 1) = List.replicate (j + 1) false by rw [List.take_succ_eq_append_getElem hjl, HT.out, ← hge, hx, ← List.replicate_succ'])
        clear hx hge
        go_wp2_with fail
        exact ⟨⟨j + 1, by omega, by go_num, HN, (by first | exact Lib.hid rfl | exact Lib.hid trivial)⟩, by simp [RowKit.intOf]; omega⟩
    · have hb : decide (j < k) = false := by simpa using hlt
      obtain rfl : j = k := by omega
      have hany : l.any (·) = false := by
        have := HT.out
        rw [List.take_of_length_le (by rw [hlh.out]; exact Nat.le_refl _)] at this
        rw [this]
        simp
      have HA := Lib.hid hany
      clear hany
      go_wp2_with fail
      go_ret
      exact ⟨by rw [← HR.out, HA.out]; rfl, rfl⟩
end Go.Proofs.YtnhajhejkecihaaDoor
/- Install: the reference's taken, Free. -/
namespace Go.Proofs.YtnhajhejkecihaaDoor
open Go.RowKit Go.Lib
set_option linter.unusedVariables false
set_option linter.unusedSimpArgs false

def z13 : Array Value := #[.int .i64 0, .int .i64 0, .string ⟨#[]⟩, .slice none 0 0, .slice none 0 0, .slice none 0 0, .int .i64 0, .int .i64 0, .slice none 0 0, .int .i64 0, .bool false, .bool false, .slice none 0 0]
/-- A module that is copied into a variable of its own. -/
theorem copied {w : World} (t : TypeId) (old new : Array Value) : ((w.alloc (.cells old t)).setRow w.heap.size new).heap[w.heap.size]? = some (.cells new t (0, 0)) := setRow_heap _ _ _ _ _ _ (heap_alloc_new w _)
theorem copied_keep {w : World} (t : TypeId) (old new : Array Value) : Keep (fun _ => False) w ((w.alloc (.cells old t)).setRow w.heap.size new) :=
  ((Keep.refl (fun _ => False) w).alloc' _).then setRow_keep (fun i e => .inr (by subst e; simp))
theorem IsRef.range {n : Nat} {w : World} {q : Nat} {u : RR} {ρ : RS} (h : IsRef n w q u ρ) {k g : Nat} (hk : k < ρ.L.length) (hg : u.A = some ⟨g, 0, none⟩) : w.rangeAt g (k * 13) (u.R.getD k RE.dflt).cells := by
  intro j v hv
  obtain ⟨g', hg', _, hc⟩ := h.rows (by omega)
  rw [hg] at hg'
  injection hg' with hg'
  injection hg' with hg'
  subst hg'
  have hj : j < 13 := (List.getElem?_eq_some_iff.1 hv).1
  rw [hc k j hk hj, List.getD_eq_getElem?_getD, hv]
  rfl
def hits (f m : Nat) (e : ME) : Bool := !e.gone && (decide (f < e.stop) && decide (e.a < f + m))
theorem any_take {p : ME → Bool} {L : List ME} {k : Nat} (hk : k < L.length) : (L.take (k + 1)).any p = ((L.take k).any p || p (L.getD k ME.dflt)) := by
  rw [List.take_succ_eq_append_getElem hk, List.any_append, List.getD_eq_getElem?_getD, List.getElem?_eq_getElem hk]
  simp
theorem any_of {p : ME → Bool} {L : List ME} {k : Nat} (hk : k < L.length) (h : p (L.getD k ME.dflt) = true) : L.any p = true := List.any_eq_true.2 ⟨_, getD_mem hk, h⟩
set_option maxRecDepth 100000 in
set_option maxHeartbeats 4000000 in
theorem rtaken_any {n : Nat} {w : World} {q : Nat} {u : RR} {ρ : RS} (h : IsRef n w q u ρ) (f m : Nat) (hf : f ≤ 1000) (hm : m ≤ 1000) : Calls Tryd.prog 30 #[.pointer (some ⟨q, 0, none⟩), .int .i64 f, .int .i64 m] w fun e w' => e = .returned (.bool (ρ.taken f m)) ∧ Keep (fun _ => False) w w' := by
  obtain ⟨r, hr⟩ : ∃ r, ρ.taken f m = r := ⟨_, rfl⟩
  rw [hr]
  have HR := Lib.hid (show ρ.L.any (hits f m) = r from hr)
  have H := Lib.hid h
  have hlen := h.ok.len
  obtain ⟨N, hN⟩ : ∃ N, ρ.L.length = N := ⟨_, rfl⟩
  rw [hN] at hlen
  have HN := Lib.hid hN
  have V0 := Lib.hid (show (ρ.L.take 0).any (hits f m) = false ∧ Keep (fun _ => False) w w from ⟨rfl, Keep.refl _ _⟩)
  clear hr h hN
  go_enter Tryd.func30, Tryd.ntmps30
  go_wp2_with fail
  go_loopw [7] (fun i wr => ∃ k : Nat, k ≤ N ∧ i = .int .i64 (k : Int) ∧ Hid ((ρ.L.take k).any (hits f m) = false ∧ Keep (fun _ => False) w wr)) (fun i _ => N + 1 - (RowKit.intOf i).toNat)
  case atStart => exact ⟨0, Nat.zero_le _, rfl, V0⟩
  case round =>
    obtain ⟨k, hk, rfl, VV⟩ := hrel
    obtain ⟨wo, rfl⟩ : ∃ wo : World, wo = wr := ⟨_, rfl⟩
    have c0 := (H.out.quiet VV.out.2).c0
    rw [HN.out] at c0
    by_cases hlt : k < N
    · have hb : decide (k < N) = true := by simpa using hlt
      have hkl : k < ρ.L.length := by rw [HN.out]; exact hlt
      obtain ⟨g, hA, _, _⟩ := (H.out.quiet VV.out.2).rows (by omega)
      have hrg := (H.out.quiet VV.out.2).range hkl hA
      have hfit := H.out.fits k hkl
      have hsz := H.out.ok.size _ (RS.at_mem hkl)
      obtain ⟨e, he⟩ : ∃ e, ρ.at_ k = e := ⟨_, rfl⟩
      obtain ⟨rc, hrc⟩ : ∃ rc, (u.R.getD k RE.dflt).cells.toArray = rc := ⟨_, rfl⟩
      have hone := hfit.one
      rw [hrc] at hone
      have hs13 : rc.size = 13 := by rw [← hrc]; rfl
      have hr2 : rc[2]? = some (.string (sb e.bytes)) := by rw [← hrc, ← he, ← hfit.b]; rfl
      have hr9 : rc[9]? = some (.int .i64 ((16 * e.a : Nat) : Int)) := by rw [← hrc, ← he, ← hfit.a]; rfl
      have hr11 : rc[11]? = some (.bool e.gone) := by rw [← hrc, ← he, ← hfit.g]; rfl
      rw [he] at hsz
      have hstop : e.stop = e.a + lns e.bytes.length := rfl
      have RG := Lib.hid hrg
      have RC := Lib.hid hrc
      have R1 := Lib.hid hone
      have R13 := Lib.hid hs13
      have HE := Lib.hid (show ρ.L.getD k ME.dflt = e from he)
      rw [hA] at c0
      have q2 : ((wo.alloc (.cells z13 76)).setRow wo.heap.size rc).cell? ⟨wo.heap.size, 2, none⟩ = some (.string (sb e.bytes)) := (blk_cell (copied _ _ _) 2).trans hr2
      have q9 : ((wo.alloc (.cells z13 76)).setRow wo.heap.size rc).cell? ⟨wo.heap.size, 9, none⟩ = some (.int .i64 ((16 * e.a : Nat) : Int)) := (blk_cell (copied _ _ _) 9).trans hr9
      have q11 : ((wo.alloc (.cells z13 76)).setRow wo.heap.size rc).cell? ⟨wo.heap.size, 11, none⟩ = some (.bool e.gone) := (blk_cell (copied _ _ _) 11).trans hr11
      have KK := Lib.hid (Keep.trans VV.out.2 (copied_keep (w := wo) 76 z13 rc))
      unfold z13 at q2 q9 q11 KK
      obtain ⟨a, ha⟩ : ∃ a, e.a = a := ⟨_, rfl⟩
      obtain ⟨gg, hgg⟩ : ∃ gg, e.gone = gg := ⟨_, rfl⟩
      obtain ⟨s, hs⟩ : ∃ s, sb e.bytes = s := ⟨_, rfl⟩
      obtain ⟨L, hL⟩ : ∃ L, e.bytes.length = L := ⟨_, rfl⟩
      have hsl : s.size = L := by rw [← hs, sb_size, hL]
      obtain ⟨l, hl⟩ : ∃ l, lns L = l := ⟨_, rfl⟩
      rw [ha, hL, hl] at hstop
      rw [ha] at q9
      rw [hgg] at q11
      rw [hs] at q2
      have hst256 := hsz.2
      rw [hstop] at hst256
      have hLb : L ≤ 4096 := by unfold lns at hl; omega
      have HLI := Lib.hid (rlines_any ((wo.alloc (.cells z13 76)).setRow wo.heap.size rc) L (by omega))
      unfold z13 at HLI
      rw [hl] at HLI
      have hav : ((16 * a : Nat) : Int) / 16 = (a : Int) := by omega
      have hhit : hits f m e = (!gg && (decide (f < a + l) && decide (a < f + m))) := by unfold hits; rw [hgg, hstop, ha]
      have HH := Lib.hid hhit
      clear hrg hfit hsz he hrc hone hs13 hr2 hr9 hr11 hstop hhit hgg ha hs hL hl hA
      have hgo : ∀ b : Bool, (!gg && (decide (f < a + l) && decide (a < f + m))) = b → Hid (hits f m e = b) := fun b hb => Lib.hid (HH.out.trans hb)
      by_cases hg1 : gg = true
      · subst hg1
        have HX := hgo false (by rfl)
        have HV := Lib.hid (show (ρ.L.take (k + 1)).any (hits f m) = false by rw [any_take hkl, VV.out.1, HE.out, HX.out]; rfl)
        clear hgo hkl
        go_wp2_with (first
          | (refine wpList_load_mid rfl 76 (.tmp 24) rfl g (k * 13) rfl _ _ RG.out Tryd.underlying76 rfl (by rw [re_length]; kernel_rfl) ?_; rw [RC.out])
          | (refine wpList_store_row rfl 76 (.tmp 8) (.tmp 25) rfl wo.heap.size 76 z13 rc rfl rfl (by exact heap_alloc_new _ _) (by rw [R13.out]; kernel_rfl) (by rw [R13.out]; rfl) R1.out ?_))
        exact ⟨⟨k + 1, by omega, by go_num, Lib.hid ⟨HV.out, KK.out⟩⟩, by simp [RowKit.intOf]; omega⟩
      · obtain rfl : gg = false := by simpa using hg1
        by_cases h1 : f < a + l
        · have hb1 : decide (f < a + l) = true := by simpa using h1
          by_cases h2 : a < f + m
          · have hb2 : decide (a < f + m) = true := by simpa using h2
            have HX := hgo true (by rw [hb1, hb2]; rfl)
            have HA := Lib.hid (show ρ.L.any (hits f m) = true from any_of hkl (by rw [HE.out, HX.out]))
            clear hgo hkl
            go_wp2_with (first
              | (refine wpList_load_mid rfl 76 (.tmp 24) rfl g (k * 13) rfl _ _ RG.out Tryd.underlying76 rfl (by rw [re_length]; kernel_rfl) ?_; rw [RC.out])
              | (refine wpList_store_row rfl 76 (.tmp 8) (.tmp 25) rfl wo.heap.size 76 z13 rc rfl rfl (by exact heap_alloc_new _ _) (by rw [R13.out]; kernel_rfl) (by rw [R13.out]; rfl) R1.out ?_))
            ((with_reducible refine HLI.out.mono ?_); rintro ee w' ⟨rfl, rfl⟩)
            go_wp2_with fail
            go_ret
            exact ⟨by rw [← HR.out, HA.out]; rfl, KK.out⟩
          · have hb2 : decide (a < f + m) = false := by simpa using h2
            have HX := hgo false (by rw [hb1, hb2]; rfl)
            have HV := Lib.hid (show (ρ.L.take (k + 1)).any (hits f m) = false by rw [any_take hkl, VV.out.1, HE.out, HX.out]; rfl)
            clear hgo hkl
            go_wp2_with (first
              | (refine wpList_load_mid rfl 76 (.tmp 24) rfl g (k * 13) rfl _ _ RG.out Tryd.underlying76 rfl (by rw [re_length]; kernel_rfl) ?_; rw [RC.out])
              | (refine wpList_store_row rfl 76 (.tmp 8) (.tmp 25) rfl wo.heap.size 76 z13 rc rfl rfl (by exact heap_alloc_new _ _) (by rw [R13.out]; kernel_rfl) (by rw [R13.out]; rfl) R1.out ?_))
            ((with_reducible refine HLI.out.mono ?_); rintro ee w' ⟨rfl, rfl⟩)
            go_wp2_with fail
            exact ⟨⟨k + 1, by omega, by go_num, Lib.hid ⟨HV.out, KK.out⟩⟩, by simp [RowKit.intOf]; omega⟩
        · have hb1 : decide (f < a + l) = false := by simpa using h1
          have HX := hgo false (by rw [hb1]; rfl)
          have HV := Lib.hid (show (ρ.L.take (k + 1)).any (hits f m) = false by rw [any_take hkl, VV.out.1, HE.out, HX.out]; rfl)
          clear hgo hkl
          go_wp2_with (first
            | (refine wpList_load_mid rfl 76 (.tmp 24) rfl g (k * 13) rfl _ _ RG.out Tryd.underlying76 rfl (by rw [re_length]; kernel_rfl) ?_; rw [RC.out])
            | (refine wpList_store_row rfl 76 (.tmp 8) (.tmp 25) rfl wo.heap.size 76 z13 rc rfl rfl (by exact heap_alloc_new _ _) (by rw [R13.out]; kernel_rfl) (by rw [R13.out]; rfl) R1.out ?_))
          ((with_reducible refine HLI.out.mono ?_); rintro ee w' ⟨rfl, rfl⟩)
          go_wp2_with fail
          exact ⟨⟨k + 1, by omega, by go_num, Lib.hid ⟨HV.out, KK.out⟩⟩, by simp [RowKit.intOf]; omega⟩
    · have hb : decide (k < N) = false := by simpa using hlt
      obtain rfl : k = N := by omega
      have HA := Lib.hid (show ρ.L.any (hits f m) = false from by have := VV.out.1; rwa [List.take_of_length_le (by rw [HN.out]; exact Nat.le_refl _)] at this)
      go_wp2_with fail
      go_ret
      exact ⟨by rw [← HR.out, HA.out]; rfl, VV.out.2⟩
/-- How many lines are free, as counted. -/
theorem frees_succ (P : Nat → Bool) (k : Nat) : frees P (k + 1) = frees P k + if P k then 0 else 1 := by
  rw [frees_step]
set_option maxRecDepth 100000 in
set_option maxHeartbeats 4000000 in
theorem rfree_any {n : Nat} {w : World} {q : Nat} {u : RR} {ρ : RS} (h : IsRef n w q u ρ) : Calls Tryd.prog 14 #[.pointer (some ⟨q, 0, none⟩)] w fun e w' => e = .returned (.int .i64 ((16 * frees (takenB ρ.abs.all) 256 : Nat) : Int)) ∧ Keep (fun _ => False) w w' := by
  obtain ⟨P, hP⟩ : ∃ P, takenB ρ.abs.all = P := ⟨_, rfl⟩
  rw [hP]
  have HT := Lib.hid (fun (W : World) (hk : Keep (fun _ => False) w W) (k : Nat) (hk2 : k ≤ 1000) => rtaken_any (h.quiet hk) k 1 hk2 (by omega))
  have HP := Lib.hid (fun k => (ρ.taken_abs k).trans (congrFun hP k))
  obtain ⟨T, hT⟩ : ∃ T, 16 * frees P 256 = T := ⟨_, rfl⟩
  rw [hT]
  have HTT := Lib.hid hT
  have V0 := Lib.hid (Keep.refl (fun _ => False) w)
  have F0 := Lib.hid (show 16 * frees P 0 = 0 from rfl)
  clear h hP hT
  go_enter Tryd.func14, Tryd.ntmps14
  go_wp2_with fail
  go_loopw [3, 4] (fun s i wr => ∃ k t : Nat, k ≤ 256 ∧ t ≤ 16 * k ∧ i = .int .i64 (k : Int) ∧ s = .int .i64 (t : Int) ∧ Hid (16 * frees P k = t) ∧ Hid (Keep (fun _ => False) w wr)) (fun _ i _ => 257 - (RowKit.intOf i).toNat)
  case atStart => exact ⟨0, 0, by omega, by omega, rfl, rfl, F0, V0⟩
  case round =>
    obtain ⟨k, t, hk, ht, rfl, rfl, HF, VV⟩ := hrel
    obtain ⟨wo, rfl⟩ : ∃ wo : World, wo = wr := ⟨_, rfl⟩
    by_cases hlt : k < 256
    · have hb : decide (k < 256) = true := by simpa using hlt
      have hcall := HT.out _ VV.out k (by omega)
      rw [HP.out k] at hcall
      have HC := Lib.hid hcall
      have HS := Lib.hid (frees_succ P k)
      obtain ⟨b, hbb⟩ : ∃ b, P k = b := ⟨_, rfl⟩
      rw [hbb] at HC HS
      clear hcall hbb
      go_wp2_with fail
      ((with_reducible refine (show Calls Tryd.prog _ #[_, _, .int .i64 1] wo _ from HC.out).mono ?_); rintro ee w2 ⟨rfl, hk2⟩)
      have VN := Lib.hid (Keep.trans VV.out hk2)
      clear hk2
      cases b with
      | true =>
        have HN := Lib.hid (show 16 * frees P (k + 1) = t by rw [HS.out]; exact HF.out)
        go_wp2_with fail
        exact ⟨⟨k + 1, t, by omega, by omega, by go_num, by go_num, HN, VN⟩, by simp [RowKit.intOf]; omega⟩
      | false =>
        have HN := Lib.hid (show 16 * frees P (k + 1) = t + 16 by rw [HS.out]; have := HF.out; simp; omega)
        go_wp2_with fail
        exact ⟨⟨k + 1, t + 16, by omega, by omega, by go_num, by go_num, HN, VN⟩, by simp [RowKit.intOf]; omega⟩
    · have hb : decide (k < 256) = false := by simpa using hlt
      obtain rfl : k = 256 := by omega
      have HTE := Lib.hid (show t = T from by rw [← HF.out, HTT.out])
      go_wp2_with fail
      go_ret
      exact ⟨by rw [← HTE.out]; rfl, VV.out⟩
end Go.Proofs.YtnhajhejkecihaaDoor
/- Install: the reference's calls as plain functions: what they answer, and what they leave. -/
namespace Go.Proofs.YtnhajhejkecihaaDoor
open Go.RowKit
set_option linter.unusedVariables false

def RS.busy (ρ : RS) (c : Int) : Bool := decide (0 ≤ ρ.inn.getD c.toNat 0)
def RS.enterR (ρ : RS) (c id : Int) : Bytes × Int × RS :=
  if ρ.cpu c = false then ([], 1, ρ) else if ρ.there id = false then ([], 14, ρ) else if ρ.busy c = true then ([], 41, ρ)
  else if (ρ.at_ id.toNat).owed.getD c.toNat false = true then ([], 40, ρ) else ((ρ.at_ id.toNat).bytes, 0, ρ.left c.toNat id)
def RS.leaveR (ρ : RS) (c : Int) : Int × RS := if ρ.cpu c = false then (1, ρ) else if ρ.busy c = false then (1, ρ) else (0, ρ.left c.toNat (-1))
def RS.safeR (ρ : RS) (c : Int) : Int × RS := if ρ.cpu c = false then (1, ρ) else if ρ.busy c = true then (41, ρ) else (0, ρ.passed c.toNat)
def ME.drop (e : ME) (o : List Bool) : ME := { e with dropped := true, owed := o }
def ME.patch (e : ME) (o : List Bool) (b : Bytes) : ME := { e with bytes := b, owed := o }
def RS.dropR (ρ : RS) (id : Int) : Int × RS := if ρ.there id = false then (14, ρ) else (0, ρ.put id.toNat ((ρ.at_ id.toNat).drop ρ.owing))
/-- May bytes go into a module there? -/
def fitsAt (old : Bytes) (at_ : Int) (b : Bytes) : Bool := decide (0 ≤ at_) && (decide (at_ ≤ (old.length : Int)) && (!b.isEmpty && decide ((b.length : Int) ≤ (old.length : Int) - at_)))
def spliced (old : Bytes) (at_ : Int) (b : Bytes) : Bytes := old.take at_.toNat ++ b ++ old.drop (at_.toNat + b.length)
def RS.patchR (ρ : RS) (id at_ : Int) (b : Bytes) : Int × RS :=
  if ρ.there id = false then (14, ρ) else if fitsAt (ρ.at_ id.toNat).bytes at_ b = false then (1, ρ) else if ρ.inn.contains id = true then (41, ρ)
  else (0, ρ.put id.toNat ((ρ.at_ id.toNat).patch ρ.owing (spliced (ρ.at_ id.toNat).bytes at_ b)))
def RS.addR (ρ : RS) (b : Bytes) : Int × Int × RS :=
  if b.length = 0 ∨ 4096 < b.length then (0, 33, ρ) else if 16 ≤ ρ.many then (0, 2, ρ) else match ρ.abs.place b.length with
  | none => (0, 2, ρ)
  | some p => ((ρ.L.length : Int), 0, ρ.added b p)

theorem RS.at_put {ρ : RS} {i : Nat} (hi : i < ρ.L.length) (e : ME) (j : Nat) : (ρ.put i e).at_ j = if j = i then e else ρ.at_ j := by
  unfold RS.at_ RS.put
  simp only [List.getD_eq_getElem?_getD]
  by_cases h : j = i
  · subst h
    rw [List.getElem?_set_self hi, if_pos rfl]
    rfl
  · rw [List.getElem?_set_ne (fun e => h e.symm), if_neg h]
theorem RS.Ok.put {ρ : RS} (h : ρ.Ok) {i : Nat} (hi : i < ρ.L.length) {e : ME} (hid : e.id = (ρ.at_ i).id) (ho : e.owed.length = ρ.inn.length) (hs : 0 < e.bytes.length ∧ e.stop ≤ 256) : (ρ.put i e).Ok := by
  have hl : (ρ.put i e).L.length = ρ.L.length := by simp [RS.put]
  refine ⟨fun j hj => ?_, fun x hx => ?_, fun x hx => ?_, h.cpus, fun v hv => by rw [hl]; exact h.inn v hv, by rw [hl]; exact h.len⟩
  · rw [hl] at hj
    rw [RS.at_put hi]
    by_cases hji : j = i
    · subst hji; rw [if_pos rfl, hid]; exact h.ids j hj
    · rw [if_neg hji]; exact h.ids j hj
  · rcases List.mem_or_eq_of_mem_set hx with hx | rfl
    · exact h.owed x hx
    · exact ho
  · rcases List.mem_or_eq_of_mem_set hx with hx | rfl
    · exact h.size x hx
    · exact hs
theorem RS.Ok.left {ρ : RS} (h : ρ.Ok) (c : Nat) {v : Int} (hv : -1 ≤ v ∧ v < ρ.L.length) : (ρ.left c v).Ok := by
  refine ⟨h.ids, fun e he => by rw [h.owed e he]; simp [RS.left], h.size, by simp [RS.left]; exact h.cpus, fun x hx => ?_, h.len⟩
  rcases List.mem_or_eq_of_mem_set hx with hx | rfl
  · exact h.inn x hx
  · exact hv
theorem RS.at_passed {ρ : RS} {i : Nat} (hi : i < ρ.L.length) (c : Nat) : (ρ.passed c).at_ i = (ρ.at_ i).passed c := by
  unfold RS.at_ RS.passed
  simp only [List.getD_eq_getElem?_getD]
  rw [List.getElem?_map, List.getElem?_eq_getElem hi]
  rfl
theorem RS.Ok.passed {ρ : RS} (h : ρ.Ok) (c : Nat) : (ρ.passed c).Ok := by
  have hl : (ρ.passed c).L.length = ρ.L.length := by simp [RS.passed]
  refine ⟨fun i hi => ?_, fun e he => ?_, fun e he => ?_, h.cpus, fun v hv => by rw [hl]; exact h.inn v hv, by rw [hl]; exact h.len⟩
  · rw [hl] at hi
    rw [RS.at_passed hi]
    exact h.ids i hi
  · obtain ⟨x, hx, rfl⟩ := List.mem_map.1 he
    unfold ME.passed
    simp only [List.length_set]
    exact h.owed x hx
  · obtain ⟨x, hx, rfl⟩ := List.mem_map.1 he
    exact h.size x hx
theorem RS.Ok.added {ρ : RS} (h : ρ.Ok) {b : Bytes} {p : Nat} (hb : 0 < b.length) (hp : p + lns b.length ≤ 256) (hl : ρ.L.length < 1000000) : (ρ.added b p).Ok := by
  have hll : (ρ.added b p).L.length = ρ.L.length + 1 := by simp [RS.added]
  refine ⟨fun i hi => ?_, fun e he => ?_, fun e he => ?_, h.cpus, fun v hv => ?_, by rw [hll]; omega⟩
  · rw [hll] at hi
    unfold RS.at_ RS.added
    simp only [List.getD_eq_getElem?_getD]
    by_cases hi2 : i < ρ.L.length
    · rw [List.getElem?_append_left hi2]
      have := h.ids i hi2
      unfold RS.at_ at this
      rwa [List.getD_eq_getElem?_getD] at this
    · obtain rfl : i = ρ.L.length := by omega
      rw [List.getElem?_append_right (Nat.le_refl _), Nat.sub_self]
      rfl
  · rcases List.mem_append.1 he with he | he
    · exact h.owed e he
    · rw [List.mem_singleton.1 he]; simp [RS.owing]; rfl
  · rcases List.mem_append.1 he with he | he
    · exact h.size e he
    · rw [List.mem_singleton.1 he]; exact ⟨hb, hp⟩
  · have := h.inn v hv
    rw [hll]
    omega
theorem RS.cpu_nat {ρ : RS} {c : Int} (h : ρ.cpu c = true) : ∃ k : Nat, c = (k : Int) ∧ k < ρ.inn.length := by
  unfold RS.cpu at h
  simp only [Bool.and_eq_true, decide_eq_true_eq] at h
  exact ⟨c.toNat, by omega, by omega⟩
theorem drop_gone {ρ : RS} (h : 1 ≤ ρ.inn.length) (e : ME) : (e.drop ρ.owing).gone = false := by
  unfold ME.drop ME.gone ME.free RS.owing
  obtain ⟨k, hk⟩ : ∃ k, ρ.inn.length = k + 1 := ⟨ρ.inn.length - 1, by omega⟩
  rw [hk]
  simp [List.replicate_succ]
theorem RS.Ok.enter {ρ : RS} (h : ρ.Ok) (c id : Int) : (ρ.enterR c id).2.2.Ok := by
  unfold RS.enterR
  split
  · exact h
  · split
    · exact h
    · split
      · exact h
      · split
        · exact h
        · rename_i _ ht _ _
          obtain ⟨i, rfl, hi, _⟩ := RS.there_at (by simpa using ht)
          exact h.left _ (by omega)
theorem RS.Ok.leave {ρ : RS} (h : ρ.Ok) (c : Int) : (ρ.leaveR c).2.Ok := by
  unfold RS.leaveR
  split
  · exact h
  · split
    · exact h
    · exact h.left _ (by omega)
theorem RS.Ok.safe {ρ : RS} (h : ρ.Ok) (c : Int) : (ρ.safeR c).2.Ok := by
  unfold RS.safeR
  split
  · exact h
  · split
    · exact h
    · exact h.passed _
theorem RS.Ok.drop {ρ : RS} (h : ρ.Ok) (id : Int) : (ρ.dropR id).2.Ok := by
  unfold RS.dropR
  split
  · exact h
  · rename_i ht
    obtain ⟨i, rfl, hi, _⟩ := RS.there_at (by simpa using ht)
    exact h.put hi rfl (by simp [ME.drop, RS.owing]) (show 0 < (ρ.at_ i).bytes.length ∧ (ρ.at_ i).stop ≤ 256 from h.size _ (RS.at_mem hi))
theorem fitsAt_nat {old : Bytes} {at_ : Int} {b : Bytes} (h : fitsAt old at_ b = true) : ∃ k : Nat, at_ = (k : Int) ∧ k + b.length ≤ old.length ∧ 0 < b.length := by
  unfold fitsAt at h
  simp only [Bool.and_eq_true, decide_eq_true_eq, Bool.not_eq_true', List.isEmpty_eq_false_iff] at h
  have := List.length_pos_iff.2 h.2.2.1
  exact ⟨at_.toNat, by omega, by omega, this⟩
theorem spliced_length {old : Bytes} {k : Nat} {b : Bytes} (h : k + b.length ≤ old.length) : (spliced old (k : Int) b).length = old.length := by
  unfold spliced
  simp only [Int.toNat_natCast, List.length_append, List.length_take, List.length_drop]
  omega
theorem RS.Ok.patch {ρ : RS} (h : ρ.Ok) (id at_ : Int) (b : Bytes) : (ρ.patchR id at_ b).2.Ok := by
  unfold RS.patchR
  split
  · exact h
  · split
    · exact h
    · split
      · exact h
      · rename_i ht hf _
        obtain ⟨i, rfl, hi, _⟩ := RS.there_at (by simpa using ht)
        obtain ⟨k, rfl, hk, _⟩ := fitsAt_nat (by simpa using hf)
        have hs := h.size _ (RS.at_mem hi)
        refine h.put hi rfl (by simp [ME.patch, RS.owing]) ?_
        unfold ME.stop ME.patch
        simp only [Int.toNat_natCast]
        rw [spliced_length hk]
        exact hs
theorem RS.Ok.add {ρ : RS} (h : ρ.Ok) (b : Bytes) (hl : ρ.L.length < 1000000) : (ρ.addR b).2.2.Ok := by
  unfold RS.addR
  split
  · exact h
  · split
    · exact h
    · rename_i hb _
      split
      · exact h
      · rename_i p hp
        exact h.added (by omega) (h.place_some (by omega) hp).1 hl
end Go.Proofs.YtnhajhejkecihaaDoor
/- Install: the reference's Enter, Leave. -/
namespace Go.Proofs.YtnhajhejkecihaaDoor
open Go.RowKit Go.Lib
set_option linter.unusedVariables false
set_option linter.unusedSimpArgs false

section
variable {n : Nat} {w w' : World} {q : Nat} {u : RR} {ρ : RS}
theorem IsRef.row_ne (h : IsRef n w q u ρ) {b : Nat} {cs : Array Value} {t : TypeId} {fr : Nat × Nat} (hb : w.heap[b]? = some (.cells cs t fr)) (ht : t ≠ 76) : ∀ k, (Value.slice u.A ρ.L.length u.ac).ownBlock = some k → k ≠ b :=
  fun k hk => blk_own_ne hb h.row hk ht
theorem IsRef.inn_ne (h : IsRef n w q u ρ) {b : Nat} {cs : Array Value} {t : TypeId} {fr : Nat × Nat} (hb : w.heap[b]? = some (.cells cs t fr)) (ht : t ≠ 3) : ∀ k, (Value.slice u.I ρ.inn.length u.ic).ownBlock = some k → k ≠ b :=
  fun k hk => blk_own_ne hb h.inn hk ht
theorem Fits.ne {e : ME} {r : RE} (h : Fits w e r) {b : Nat} {cs : Array Value} {t : TypeId} {fr : Nat × Nat} (hb : w.heap[b]? = some (.cells cs t fr)) (ht : t ≠ 4) : ∀ k, r.v.ownBlock = some k → k ≠ b :=
  fun k hk => blk_own_ne hb h.own hk ht
/-- A processor enters or leaves. -/
theorem IsRef.left (h : IsRef n w q u ρ) {b c : Nat} (hI : u.I = some ⟨b, 0, none⟩) (hc : c < ρ.inn.length) {v : Int} (hv : -1 ≤ v ∧ v < ρ.L.length) :
    IsRef n (w.setCell ⟨b, c, none⟩ (.int .i64 v)) q u (ρ.left c v) ∧ Keep (u.foot q) w (w.setCell ⟨b, c, none⟩ (.int .i64 v)) := by
  have ks := keep_set (Keep.refl (fun k => k = b) w) c (.int .i64 v)
  have hin := h.inn
  rw [hI] at hin
  obtain ⟨cur, hcur⟩ := own_type hin (k := b) rfl
  have hlen : (ρ.left c v).inn.length = ρ.inn.length := by simp [RS.left]
  refine ⟨⟨?_, ks.own h.row (fun k e => h.row_ne hcur (by decide) k e), ?_, fun i hi => (h.fits i hi).keep ks (fun k e => (h.fits i hi).ne hcur (by decide) k e), h.apart, h.low, h.ok.left c hv⟩, Keep.mono ks (fun k e => .inr (.inr (.inl ⟨_, hI, e⟩)))⟩
  · rw [hlen]
    exact (ks.block q (blk_lt h.hdr) (cells_ne h.hdr hcur (by decide))).trans h.hdr
  · rw [hlen, hI]
    have := (hin.stored c (.int .i64 v)).1
    rw [ints_set] at this
    exact this
end
set_option maxRecDepth 100000 in
set_option maxHeartbeats 2000000 in
theorem renter_any {n : Nat} {w : World} {q : Nat} {u : RR} {ρ : RS} (h : IsRef n w q u ρ) (c id : Int) :
    Calls Tryd.prog 48 #[.pointer (some ⟨q, 0, none⟩), .int .i64 c, .int .i64 id] w fun e w' => e = .returned (.tuple #[.string (sb (ρ.enterR c id).1), .int .i64 (ρ.enterR c id).2.1]) ∧ IsRef n w' q u (ρ.enterR c id).2.2 ∧ Keep (u.foot q) w w' := by
  have HC := Lib.hid (rcpu_any h c)
  have HT := Lib.hid (rthere_any h id)
  have K0 := Lib.hid (And.intro h (Keep.refl (u.foot q) w))
  unfold RS.enterR
  cases hcpu : ρ.cpu c with
  | false =>
    rw [if_pos rfl]
    rw [hcpu] at HC
    clear hcpu HT h
    go_enter Tryd.func48, Tryd.ntmps48
    go_wp2_with fail
    ((with_reducible refine HC.out.mono ?_); rintro ee w' ⟨rfl, rfl⟩)
    go_wp2_with fail
    go_ret2
    exact ⟨rfl, K0.out⟩
  | true =>
    rw [if_neg (by decide)]
    rw [hcpu] at HC
    obtain ⟨k, rfl, hk⟩ := RS.cpu_nat hcpu
    cases hth : ρ.there id with
    | false =>
      rw [if_pos rfl]
      rw [hth] at HT
      clear hcpu hth h
      go_enter Tryd.func48, Tryd.ntmps48
      go_wp2_with fail
      ((with_reducible refine HC.out.mono ?_); rintro ee w' ⟨rfl, rfl⟩)
      go_wp2_with fail
      ((with_reducible refine HT.out.mono ?_); rintro ee w' ⟨rfl, rfl⟩)
      go_wp2_with fail
      go_ret2
      exact ⟨rfl, K0.out⟩
    | true =>
      rw [if_neg (by decide)]
      rw [hth] at HT
      obtain ⟨i, rfl, hi, hd⟩ := RS.there_at hth
      have c0 := h.c0
      have c1 := h.c1
      obtain ⟨g, hA, _, hrow⟩ := h.rows (by omega)
      obtain ⟨b, hI, _, hcp⟩ := h.cpus
      have qb := hcp k hk
      have hfit := h.fits i hi
      have hol := h.ok.owed _ (RS.at_mem hi)
      have hcpus := h.ok.cpus
      have hll := h.ok.len
      obtain ⟨o, oc, hv, _, hoc⟩ := hfit.owes (by omega)
      have qo := hoc k (by omega)
      have q12 := hrow i 12 hi (by omega)
      have q2 := hrow i 2 hi (by omega)
      have e12 : (u.R.getD i RE.dflt).cells.getD 12 undef = .slice (some ⟨o, 0, none⟩) ρ.inn.length oc := by rw [← hol, ← hv]; rfl
      have e2 : (u.R.getD i RE.dflt).cells.getD 2 undef = .string (sb (ρ.at_ i).bytes) := by rw [← hfit.b]; rfl
      rw [e12] at q12
      rw [e2] at q2
      have HL := Lib.hid (h.left hI hk (v := (i : Int)) (by omega))
      have hinn := h.inn
      rw [hI] at c1 hinn
      rw [hA] at c0
      have fb := hinn.frozenAt k
      obtain ⟨cb, hcb⟩ := own_type hinn (k := b) rfl
      obtain ⟨cg, hcg⟩ := own_type (by have := h.row; rwa [hA] at this) (k := g) rfl
      have hgb : g ≠ b := cells_ne hcg hcb (by decide)
      have hqb : q ≠ b := cells_ne h.hdr hcb (by decide)
      have ks := keep_set (Keep.refl (fun j => j = b) w) k (.int .i64 (i : Int))
      have p0 := cell_kept ks c0 hqb
      have p2 := cell_kept ks q2 hgb
      simp only [Int.toNat_natCast]
      obtain ⟨bs, hbs⟩ : ∃ bs, (ρ.at_ i).bytes = bs := ⟨_, rfl⟩
      obtain ⟨N, hN⟩ : ∃ N, ρ.L.length = N := ⟨_, rfl⟩
      obtain ⟨M, hM⟩ : ∃ M, ρ.inn.length = M := ⟨_, rfl⟩
      obtain ⟨iv, hiv⟩ : ∃ iv, ρ.inn.getD k 0 = iv := ⟨_, rfl⟩
      obtain ⟨ow, how⟩ : ∃ ow, (ρ.at_ i).owed.getD k false = ow := ⟨_, rfl⟩
      have hbusy : ρ.busy (k : Int) = decide (0 ≤ iv) := by unfold RS.busy; rw [Int.toNat_natCast, hiv]
      rw [hbs, how, hbusy]
      rw [hbs] at q2 p2
      rw [hN] at hi hll c0 p0
      rw [hM] at hk c1 q12 hcpus
      rw [hiv] at qb
      rw [how] at qo
      clear h hcpu hth hA hI hrow hcp hfit hol hv hoc e12 e2 hinn hcb hcg hgb hqb ks hbs hN hM hiv how hbusy hd
      by_cases hbz : 0 ≤ iv
      · have hb1 : decide (0 ≤ iv) = true := by simpa using hbz
        rw [hb1, if_pos rfl]
        go_enter Tryd.func48, Tryd.ntmps48
        go_wp2_with fail
        ((with_reducible refine HC.out.mono ?_); rintro ee w' ⟨rfl, rfl⟩)
        go_wp2_with fail
        ((with_reducible refine HT.out.mono ?_); rintro ee w' ⟨rfl, rfl⟩)
        go_wp2_with fail
        go_ret2
        exact ⟨rfl, K0.out⟩
      · have hb1 : decide (0 ≤ iv) = false := by simpa using hbz
        rw [hb1, if_neg (by decide)]
        cases ow with
        | true =>
          rw [if_pos rfl]
          go_enter Tryd.func48, Tryd.ntmps48
          go_wp2_with fail
          ((with_reducible refine HC.out.mono ?_); rintro ee w' ⟨rfl, rfl⟩)
          go_wp2_with fail
          ((with_reducible refine HT.out.mono ?_); rintro ee w' ⟨rfl, rfl⟩)
          go_wp2_with fail
          go_ret2
          exact ⟨rfl, K0.out⟩
        | false =>
          rw [if_neg (by decide)]
          go_enter Tryd.func48, Tryd.ntmps48
          go_wp2_with fail
          ((with_reducible refine HC.out.mono ?_); rintro ee w' ⟨rfl, rfl⟩)
          go_wp2_with fail
          ((with_reducible refine HT.out.mono ?_); rintro ee w' ⟨rfl, rfl⟩)
          go_wp2_with fail
          go_ret2
          exact ⟨rfl, HL.out⟩
set_option maxRecDepth 100000 in
set_option maxHeartbeats 2000000 in
theorem rleave_any {n : Nat} {w : World} {q : Nat} {u : RR} {ρ : RS} (h : IsRef n w q u ρ) (c : Int) :
    Calls Tryd.prog 49 #[.pointer (some ⟨q, 0, none⟩), .int .i64 c] w fun e w' => e = .returned (.int .i64 (ρ.leaveR c).1) ∧ IsRef n w' q u (ρ.leaveR c).2 ∧ Keep (u.foot q) w w' := by
  have HC := Lib.hid (rcpu_any h c)
  have K0 := Lib.hid (And.intro h (Keep.refl (u.foot q) w))
  unfold RS.leaveR
  cases hcpu : ρ.cpu c with
  | false =>
    rw [if_pos rfl]
    rw [hcpu] at HC
    clear hcpu h
    go_enter Tryd.func49, Tryd.ntmps49
    go_wp2_with fail
    ((with_reducible refine HC.out.mono ?_); rintro ee w' ⟨rfl, rfl⟩)
    go_wp2_with fail
    go_ret
    exact ⟨rfl, K0.out⟩
  | true =>
    rw [if_neg (by decide)]
    rw [hcpu] at HC
    obtain ⟨k, rfl, hk⟩ := RS.cpu_nat hcpu
    have c1 := h.c1
    obtain ⟨b, hI, _, hcp⟩ := h.cpus
    have qb := hcp k hk
    have hcpus := h.ok.cpus
    have HL := Lib.hid (h.left hI hk (v := -1) (by omega))
    have hinn := h.inn
    rw [hI] at c1 hinn
    have fb := hinn.frozenAt k
    simp only [Int.toNat_natCast]
    obtain ⟨M, hM⟩ : ∃ M, ρ.inn.length = M := ⟨_, rfl⟩
    obtain ⟨iv, hiv⟩ : ∃ iv, ρ.inn.getD k 0 = iv := ⟨_, rfl⟩
    have hbusy : ρ.busy (k : Int) = decide (0 ≤ iv) := by unfold RS.busy; rw [Int.toNat_natCast, hiv]
    rw [hbusy]
    rw [hM] at hk c1 hcpus
    rw [hiv] at qb
    clear h hcpu hI hcp hinn hM hiv hbusy
    by_cases hbz : iv < 0
    · have hb2 : decide (iv < 0) = true := by simpa using hbz
      have hb1 : decide (0 ≤ iv) = false := by simp; omega
      rw [hb1, if_pos rfl]
      go_enter Tryd.func49, Tryd.ntmps49
      go_wp2_with fail
      ((with_reducible refine HC.out.mono ?_); rintro ee w' ⟨rfl, rfl⟩)
      go_wp2_with fail
      go_ret
      exact ⟨rfl, K0.out⟩
    · have hb2 : decide (iv < 0) = false := by simpa using hbz
      have hb1 : decide (0 ≤ iv) = true := by simp; omega
      rw [hb1]
      simp only [Bool.true_eq_false, if_false]
      go_enter Tryd.func49, Tryd.ntmps49
      go_wp2_with fail
      ((with_reducible refine HC.out.mono ?_); rintro ee w' ⟨rfl, rfl⟩)
      go_wp2_with fail
      go_ret
      exact ⟨rfl, HL.out⟩
end Go.Proofs.YtnhajhejkecihaaDoor
/- append of any source onto an owned row, at an operation that stands under a guard. -/
namespace Go.Proofs.YtnhajhejkecihaaDoor
open Go.RowKit
set_option linter.unusedVariables false

theorem oper_append_src {P : Program} {w : World} {o : Oper} {a : Act} {K : Act → World → Prop} {Q : Exit → Act → World → Prop}
    (t e : TypeId) (z : Value) (bytes base : Nat) (T : OneTy P t e z bytes) (s x : Operand)
    (ho : o.op = .call { callee := .builtin .append, args := #[s, x], argTypes := #[t, t] })
    (v : Value) (n : Nat) (xs : List Value) (hs : a.eval s = v) (hown : w.ownsRow base e 1 v n xs)
    (A : Option Addr) (m c : Nat) (news : List Value) (hx : a.eval x = .slice A m c) (hnone : A = none → m = 0 ∧ c = 0) (hsrc : CellsAt w A m news) (h1 : ∀ u ∈ news, u.oneCell' = true)
    (hbytes : (n + m) * bytes ≤ 140737488355328) (hb0 : 0 < bytes) (hbase : base ≤ w.heap.size)
    (h : ∀ A' c' w', w'.ownsRow base e 1 (.slice A' (n + m) c') (n + m) (xs ++ news) → w.grownBy w' v.ownBlock → ((Value.slice A' (n + m) c').ownBlock = v.ownBlock ∨ (Value.slice A' (n + m) c').ownBlock = some w.heap.size) → K (a.put o.dst (.slice A' (n + m) c')) w') :
    Oper.wp P o a w K Q := by
  obtain ⟨i, hi, hz0, hz1, hz2⟩ := info_parts T.info
  have hlen : n + m ≤ 140737488355328 := Nat.le_trans (Nat.le_mul_of_pos_right _ hb0) hbytes
  obtain ⟨A0, c0, rfl⟩ := own_slice hown
  cases A with
  | none =>
    obtain ⟨rfl, rfl⟩ := hnone rfl
    obtain rfl : news = [] := List.eq_nil_of_length_eq_zero hsrc.1
    have hrun := run_append_owned_none (P := P) (w := w) base t o.type e i 1 T.ht hi _ n xs hown
    unfold Oper.wp
    simp [execOp, ho, resolve, invoke, builtin, hs, hx, hrun, Result.andThen]
    exact h A0 c0 w (by simpa using hown) (World.grownBy.refl _ _) (.inl rfl)
  | some ad =>
    obtain ⟨v', w', hr, h2, h3, h4, h5⟩ := run_append_own_at (P := P) w base t o.type e i z 1 bytes T.ht hi hz0 hz1 hz2 T.hz (by omega) _ n xs hown ad m c news (by simpa using hsrc.1) (by
      intro j u hu
      have hj : j < m := by have := (List.getElem?_eq_some_iff.1 hu).1; rwa [hsrc.1] at this
      obtain ⟨b, off, e1, _, hc⟩ := hsrc.2.2 (by omega)
      obtain rfl := Option.some.inj e1
      rw [Addr.add_lit, hc j hj]
      exact hu) h1 (by unfold maxLen; omega) hbytes hbase
    obtain ⟨A', c', rfl⟩ := own_slice h2
    unfold Oper.wp execOp
    simp only [ho, resolve, invoke, builtin, Sem.run_bind, Sem.run_pure, Result.andThen_ok, List.map_toArray, List.map_cons, List.map_nil, hs, hx, hr]
    exact h A' c' w' h2 h3 h5
theorem wpList_append_want {P : Program} {w : World} {ops : Array Oper} {rest : List Oper} {o : Oper} {a : Act} {Q : Exit → Act → World → Prop} (hw : Region.wanted o (yielded ops a.tmps) = true)
    (t e : TypeId) (z : Value) (bytes base : Nat) (T : OneTy P t e z bytes) (s x : Operand)
    (ho : o.op = .call { callee := .builtin .append, args := #[s, x], argTypes := #[t, t] })
    (v : Value) (n : Nat) (xs : List Value) (hs : a.eval s = v) (hown : w.ownsRow base e 1 v n xs)
    (A : Option Addr) (m c : Nat) (news : List Value) (hx : a.eval x = .slice A m c) (hnone : A = none → m = 0 ∧ c = 0) (hsrc : CellsAt w A m news) (h1 : ∀ u ∈ news, u.oneCell' = true)
    (hbytes : (n + m) * bytes ≤ 140737488355328) (hb0 : 0 < bytes) (hbase : base ≤ w.heap.size)
    (h : ∀ A' c' w', w'.ownsRow base e 1 (.slice A' (n + m) c') (n + m) (xs ++ news) → w.grownBy w' v.ownBlock → ((Value.slice A' (n + m) c').ownBlock = v.ownBlock ∨ (Value.slice A' (n + m) c').ownBlock = some w.heap.size) → wpList P ops Q rest (a.put o.dst (.slice A' (n + m) c')) w') :
    wpList P ops Q (o :: rest) a w := by
  unfold wpList
  rw [if_pos hw]
  exact .inl (oper_append_src t e z bytes base T s x ho v n xs hs hown A m c news hx hnone hsrc h1 hbytes hb0 hbase h)
end Go.Proofs.YtnhajhejkecihaaDoor
/- Install: the reference's owe. -/
namespace Go.Proofs.YtnhajhejkecihaaDoor
open Go.RowKit Go.Lib
set_option linter.unusedVariables false
set_option linter.unusedSimpArgs false

theorem Tryd.boolsTy : OneTy Tryd.prog 74 4 (.bool false) 1 := ⟨Tryd.underlying74, by kernel_rfl, rfl⟩
/-- The store while it is written down what a module is owed; v is what stands in the row. -/
structure OW (w : World) (q g n c m : Nat) (I : Option Addr) (ic : Nat) (xs : List Value) (k : Nat) (v : Value) (W : World) : Prop where
  hdr : W.heap[q]? = some (.cells #[.slice (some ⟨g, 0, none⟩) n c, .slice I m ic] 35 (0, 0))
  row : W.ownsRow 0 76 13 (.slice (some ⟨g, 0, none⟩) n c) n (xs.set (k * 13 + 12) v)
  keep : Keep (fun i => i = g) w W
section
variable {w W W' : World} {q g n c m k : Nat} {I : Option Addr} {ic : Nat} {xs : List Value} {v : Value}
theorem OW.quiet (h : OW w q g n c m I ic xs k v W) (hk : Keep (fun _ => False) W W') : OW w q g n c m I ic xs k v W' :=
  ⟨(hk.block q (blk_lt h.hdr) id).trans h.hdr, hk.own h.row (fun _ _ => id), Keep.trans h.keep (Keep.mono hk (fun _ => False.elim))⟩
theorem OW.more (h : OW w q g n c m I ic xs k v W) (o : Obj) : OW w q g n c m I ic xs k v (W.alloc o) := h.quiet ((Keep.refl _ W).alloc' o)
theorem OW.draw (h : OW w q g n c m I ic xs k v W) : OW w q g n c m I ic xs k v W.drew := h.quiet (keep_draw _ W)
theorem OW.c0 (h : OW w q g n c m I ic xs k v W) : W.cell? ⟨q, 0, none⟩ = some (.slice (some ⟨g, 0, none⟩) n c) := (blk_cell h.hdr 0).trans rfl
theorem OW.c1 (h : OW w q g n c m I ic xs k v W) : W.cell? ⟨q, 1, none⟩ = some (.slice I m ic) := (blk_cell h.hdr 1).trans rfl
theorem OW.len (h : OW w q g n c m I ic xs k v W) : xs.length = n * 13 := by have := h.row.1; simpa using this
theorem OW.c12 (h : OW w q g n c m I ic xs k v W) (hk : k < n) : W.cell? ⟨g, k * 13 + 12, none⟩ = some v := by
  rw [h.row.cellAt _ (by omega), List.getElem?_set_self (by rw [h.len]; omega)]
theorem OW.f12 (h : OW w q g n c m I ic xs k v W) : W.frozen? ⟨g, k * 13 + 12, none⟩ = false := h.row.frozenAt _
theorem OW.gblk (h : OW w q g n c m I ic xs k v W) : ∃ cur, W.heap[g]? = some (.cells cur 76 (0, 0)) := own_type h.row rfl
theorem OW.store (h : OW w q g n c m I ic xs k v W) (v' : Value) : OW w q g n c m I ic xs k v' (W.setCell ⟨g, k * 13 + 12, none⟩ v') := by
  have ks := keep_set (Keep.refl (fun i => i = g) W) (k * 13 + 12) v'
  obtain ⟨cur, hg⟩ := h.gblk
  refine ⟨(ks.block q (blk_lt h.hdr) (cells_ne h.hdr hg (by decide))).trans h.hdr, ?_, Keep.trans h.keep ks⟩
  have := (h.row.stored (k * 13 + 12) v').1
  rwa [List.set_set] at this
/-- A list of bools in new memory grows. -/
theorem OW.grow (h : OW w q g n c m I ic xs k v W) {j : Nat} {x : Value} {bs : List Value} (ho : W.ownsRow w.heap.size 4 1 x j bs) {row : Option Nat} (hrow : row = x.ownBlock) (hg : W.grownBy W' row) : OW w q g n c m I ic xs k v W' := by
  subst hrow
  have hk : Keep (fun i => x.ownBlock = some i) W W' := (Keep.refl _ W).grown hg (fun i e => .inl e)
  have hlow : ∀ i, x.ownBlock = some i → w.heap.size ≤ i := fun i e => own_low ho e
  obtain ⟨cur, hcur⟩ := h.gblk
  refine ⟨(hk.block q (blk_lt h.hdr) (fun e => blk_own_ne h.hdr ho e (by decide) rfl)).trans h.hdr, hk.own h.row (fun b e => ?_), h.keep.then hk (fun i e => .inr (hlow i e))⟩
  have e2 : g = b := by simpa [Value.ownBlock] using e
  subst e2
  exact fun e => blk_own_ne hcur ho e (by decide) rfl
theorem OW.own_store (h : OW w q g n c m I ic xs k v W) {j : Nat} {x : Value} {bs : List Value} (ho : W.ownsRow w.heap.size 4 1 x j bs) (v' : Value) : (W.setCell ⟨g, k * 13 + 12, none⟩ v').ownsRow w.heap.size 4 1 x j bs := by
  obtain ⟨cur, hcur⟩ := h.gblk
  exact (keep_set (Keep.refl (fun i => i = g) W) (k * 13 + 12) v').own ho (fun b e => blk_own_ne hcur ho e (by decide))
end
theorem bools_snoc (j : Nat) : bools (List.replicate j true) ++ [.bool true] = bools (List.replicate (j + 1) true) := by
  rw [List.replicate_succ', bools, bools, List.map_append]
  rfl
theorem own_slice_len {w : World} {base size n : Nat} {e : TypeId} {A : Option Addr} {l c : Nat} {xs : List Value} (h : w.ownsRow base e size (.slice A l c) n xs) : l = n := by
  rcases h.2 with ⟨h1, h2⟩ | ⟨g, cap, cur, h1, _⟩
  · injection h1 with _ h3 _; omega
  · injection h1
set_option maxRecDepth 100000 in
set_option maxHeartbeats 4000000 in
theorem rowe_any (w : World) {q g n c m : Nat} {I : Option Addr} {ic : Nat} {xs : List Value} {k : Nat} (hq : w.heap[q]? = some (.cells #[.slice (some ⟨g, 0, none⟩) n c, .slice I m ic] 35 (0, 0)))
    (hrow : w.ownsRow 0 76 13 (.slice (some ⟨g, 0, none⟩) n c) n xs) (hk : k < n) (hn : n ≤ 1000000) (hm : m ≤ 4) :
    Calls Tryd.prog 68 #[.pointer (some ⟨q, 0, none⟩), .int .i64 k] w fun e w' => e = .returned (.tuple #[]) ∧ ∃ v, OW w q g n c m I ic xs k v w' ∧ w'.ownsRow w.heap.size 4 1 v m (bools (List.replicate m true)) := by
  obtain ⟨v0, hv0⟩ : ∃ v0, xs[k * 13 + 12]? = some v0 := ⟨_, List.getElem?_eq_getElem (by rw [hrow.1]; omega)⟩
  have hset : xs.set (k * 13 + 12) v0 = xs := by
    obtain ⟨hlt, hv⟩ := List.getElem?_eq_some_iff.1 hv0
    rw [← hv]
    exact List.set_getElem_self hlt
  have W0 : OW w q g n c m I ic xs k v0 w := ⟨hq, by rw [hset]; exact hrow, Keep.refl _ _⟩
  have c0 := W0.c0
  have c12 := W0.c12 hk
  have f12 := W0.f12
  have V0 := Lib.hid (W0.store (.slice none 0 0))
  have O0 := Lib.hid (World.ownsRow_nil (w.setCell ⟨g, k * 13 + 12, none⟩ (.slice none 0 0)) w.heap.size 4 1)
  clear hq hrow hv0 hset W0
  go_enter Tryd.func68, Tryd.ntmps68
  go_wp2_with fail
  clear c0 c12 f12
  go_loopw [4] (fun i wr => ∃ j : Nat, j ≤ m ∧ i = .int .i64 (j : Int) ∧ ∃ (A : Option Addr) (cc : Nat), Hid (OW w q g n c m I ic xs k (.slice A j cc) wr) ∧ Hid (wr.ownsRow w.heap.size 4 1 (.slice A j cc) j (bools (List.replicate j true)))) (fun i _ => m + 1 - (RowKit.intOf i).toNat)
  case atStart => exact ⟨0, Nat.zero_le _, rfl, none, 0, V0, O0⟩
  case round =>
    obtain ⟨j, hj, rfl, A, cc, VV, HO⟩ := hrel
    obtain ⟨wo, rfl⟩ : ∃ wo : World, wo = wr := ⟨_, rfl⟩
    clear V0 O0
    have c1 := VV.out.c1
    by_cases hlt : j < m
    · have hb : decide (j < m) = true := by simpa using hlt
      have HD := Lib.hid (show wo.drew.ownsRow w.heap.size 4 1 (.slice A j cc) j (bools (List.replicate j true)) from HO.out)
      have SZ := Lib.hid (show w.heap.size ≤ wo.heap.size from VV.out.keep.size)
      go_upto_region 4 with (fail)
      refine wp_region_drewU (S := (fun w' => Hid (OW w q g n c m I ic xs k (.slice A j cc) w'))) (D := [15, 16, 17]) (by kernel_rfl) (by exact Lib.hid (VV.out.draw)) (fun hH => ?_)
      refine wpAnyU_take (i := 0) (v := ?_) rfl (by kernel_rfl) (by kernel_rfl) (by kernel_rfl) (by kernel_rfl) (fun _ _ _ h => h) (Or.inl ⟨by rfl, ?_⟩) hH ?_
      rotate_left
      · (intro w'' hSw; (try dsimp only at hSw); go_simp; try with_reducible rfl)
      change wpAnyU _ _ _ _ _ _ _ _ (Act.put _ (some 21) _) _
      try simp only [Act.put, List.setIfInBounds_toArray, List.set_cons_zero, List.set_cons_succ]
      refine wpAnyU_take (i := 1) (v := ?_) rfl (by kernel_rfl) (by kernel_rfl) (by kernel_rfl) (by kernel_rfl) (fun _ _ _ h => h) (Or.inl ⟨by rfl, ?_⟩) hH ?_
      rotate_left
      · (intro w'' hSw; (try dsimp only at hSw); go_simp; try with_reducible rfl)
      change wpAnyU _ _ _ _ _ _ _ _ (Act.put _ (some 22) _) _
      try simp only [Act.put, List.setIfInBounds_toArray, List.set_cons_zero, List.set_cons_succ]
      refine wpAnyU_take (i := 2) (v := ?_) rfl (by kernel_rfl) (by kernel_rfl) (by kernel_rfl) (by kernel_rfl) (fun _ _ _ h => h) (Or.inl ⟨by rfl, ?_⟩) hH ?_
      rotate_left
      · (intro w'' hSw; (try dsimp only at hSw); go_simp; try with_reducible rfl)
      change wpAnyU _ _ _ _ _ _ _ _ (Act.put _ (some 23) _) _
      try simp only [Act.put, List.setIfInBounds_toArray, List.set_cons_zero, List.set_cons_succ]
      refine wpAnyU_take (i := 3) (v := ?_) rfl (by kernel_rfl) (by kernel_rfl) (by kernel_rfl) (by kernel_rfl) (fun _ _ _ h => h) (Or.inl ⟨by rfl, ?_⟩) hH ?_
      rotate_left
      · (intro w'' hSw; have q := hSw.out.c0; go_simp; try with_reducible rfl)
      change wpAnyU _ _ _ _ _ _ _ _ (Act.put _ (some 24) _) _
      try simp only [Act.put, List.setIfInBounds_toArray, List.set_cons_zero, List.set_cons_succ]
      refine wpAnyU_take (i := 4) (v := ?_) rfl (by kernel_rfl) (by kernel_rfl) (by kernel_rfl) (by kernel_rfl) (fun _ _ _ h => h) (Or.inl ⟨by rfl, ?_⟩) hH ?_
      rotate_left
      · (intro w'' hSw; (try dsimp only at hSw); go_simp; try with_reducible rfl)
      change wpAnyU _ _ _ _ _ _ _ _ (Act.put _ (some 25) _) _
      try simp only [Act.put, List.setIfInBounds_toArray, List.set_cons_zero, List.set_cons_succ]
      refine wpAnyU_take (i := 5) (v := ?_) rfl (by kernel_rfl) (by kernel_rfl) (by kernel_rfl) (by kernel_rfl) (fun _ _ _ h => h) (Or.inl ⟨by rfl, ?_⟩) hH ?_
      rotate_left
      · (intro w'' hSw; (try dsimp only at hSw); go_simp; try with_reducible rfl)
      change wpAnyU _ _ _ _ _ _ _ _ (Act.put _ (some 26) _) _
      try simp only [Act.put, List.setIfInBounds_toArray, List.set_cons_zero, List.set_cons_succ]
      refine wpAnyU_take (i := 6) (v := ?_) rfl (by kernel_rfl) (by kernel_rfl) (by kernel_rfl) (by kernel_rfl) (fun _ _ _ h => h) (Or.inl ⟨by rfl, ?_⟩) hH ?_
      rotate_left
      · (intro w'' hSw; (try dsimp only at hSw); go_simp; try with_reducible rfl)
      change wpAnyU _ _ _ _ _ _ _ _ (Act.put _ (some 27) _) _
      try simp only [Act.put, List.setIfInBounds_toArray, List.set_cons_zero, List.set_cons_succ]
      refine wpAnyU_take (i := 7) (v := ?_) rfl (by kernel_rfl) (by kernel_rfl) (by kernel_rfl) (by kernel_rfl) (fun _ _ _ h => h) (Or.inl ⟨by rfl, ?_⟩) hH ?_
      rotate_left
      · (intro w'' hSw; (try dsimp only at hSw); go_simp; try with_reducible rfl)
      change wpAnyU _ _ _ _ _ _ _ _ (Act.put _ (some 28) _) _
      try simp only [Act.put, List.setIfInBounds_toArray, List.set_cons_zero, List.set_cons_succ]
      refine wpAnyU_take (i := 8) (v := ?_) rfl (by kernel_rfl) (by kernel_rfl) (by kernel_rfl) (by kernel_rfl) (fun _ _ _ h => h) (Or.inl ⟨by rfl, ?_⟩) hH ?_
      rotate_left
      · (intro w'' hSw; have q := hSw.out.c0; go_simp; try with_reducible rfl)
      change wpAnyU _ _ _ _ _ _ _ _ (Act.put _ (some 29) _) _
      try simp only [Act.put, List.setIfInBounds_toArray, List.set_cons_zero, List.set_cons_succ]
      refine wpAnyU_take (i := 9) (v := ?_) rfl (by kernel_rfl) (by kernel_rfl) (by kernel_rfl) (by kernel_rfl) (fun _ _ _ h => h) (Or.inl ⟨by rfl, ?_⟩) hH ?_
      rotate_left
      · (intro w'' hSw; (try dsimp only at hSw); go_simp; try with_reducible rfl)
      change wpAnyU _ _ _ _ _ _ _ _ (Act.put _ (some 30) _) _
      try simp only [Act.put, List.setIfInBounds_toArray, List.set_cons_zero, List.set_cons_succ]
      refine wpAnyU_take (i := 10) (v := ?_) rfl (by kernel_rfl) (by kernel_rfl) (by kernel_rfl) (by kernel_rfl) (fun _ _ _ h => h) (Or.inl ⟨by rfl, ?_⟩) hH ?_
      rotate_left
      · (intro w'' hSw; (try dsimp only at hSw); go_simp; try with_reducible rfl)
      change wpAnyU _ _ _ _ _ _ _ _ (Act.put _ (some 31) _) _
      try simp only [Act.put, List.setIfInBounds_toArray, List.set_cons_zero, List.set_cons_succ]
      refine wpAnyU_take (i := 11) (v := ?_) rfl (by kernel_rfl) (by kernel_rfl) (by kernel_rfl) (by kernel_rfl) (fun _ _ _ h => h) (Or.inl ⟨by rfl, ?_⟩) hH ?_
      rotate_left
      · (intro w'' hSw; (try dsimp only at hSw); go_simp; try with_reducible rfl)
      change wpAnyU _ _ _ _ _ _ _ _ (Act.put _ (some 32) _) _
      try simp only [Act.put, List.setIfInBounds_toArray, List.set_cons_zero, List.set_cons_succ]
      refine wpAnyU_take (i := 12) (v := ?_) rfl (by kernel_rfl) (by kernel_rfl) (by kernel_rfl) (by kernel_rfl) (fun _ _ _ h => h) (Or.inl ⟨by rfl, ?_⟩) hH ?_
      rotate_left
      · (intro w'' hSw; have q := hSw.out.c12 hk; go_simp; try with_reducible rfl)
      change wpAnyU _ _ _ _ _ _ _ _ (Act.put _ (some 33) _) _
      try simp only [Act.put, List.setIfInBounds_toArray, List.set_cons_zero, List.set_cons_succ]
      refine wpAnyU_ready (rs := [13]) (by kernel_rfl) (by simp) ?_
      refine AllReadyU.cons rfl (fun Kn hKn => ?_) AllReadyU.nil
      go_simp
      refine hKn.out _ _ ?_ (fun hH => ?_)
      · (exact Lib.hid (hH.out.more _))
      clear hKn Kn
      try simp only [Act.put, List.setIfInBounds_toArray, List.set_cons_zero, List.set_cons_succ]
      refine wpAnyU_ready (rs := [14]) (by kernel_rfl) (by simp) ?_
      refine AllReadyU.cons rfl (fun Kn hKn => ?_) AllReadyU.nil
      refine oper_append_src 74 4 (.bool false) 1 w.heap.size Tryd.boolsTy (.tmp 33) (.tmp 34) rfl (.slice A j cc) j (bools (List.replicate j true)) rfl (HD.out.alloc _) _ 1 1 [.bool true] rfl (by intro h; cases h) (cells_new _ [.bool true] 4) (bools_one [true]) (by omega) (by decide) (by have := SZ.out; simp; omega) ?_
      intro A' c' w2 hown hgrow hob
      rw [bools_snoc] at hown
      have HO2 := Lib.hid hown
      have HG2 := Lib.hid (hH.out.grow (HD.out.alloc _) rfl hgrow)
      clear hown hgrow hob
      refine hKn.out _ _ ?_ (fun hH => ?_)
      · (exact HG2)
      clear hKn Kn
      try simp only [Act.put, List.setIfInBounds_toArray, List.set_cons_zero, List.set_cons_succ]
      refine wpAnyU_pure (i := 15) (v := ?_) rfl (by kernel_rfl) (by kernel_rfl) (by kernel_rfl) (by rfl) (fun _ _ _ h => h) (Or.inl ⟨by rfl, ?_⟩) ?_
      rotate_left
      · (intro w'' _; go_simp; try with_reducible rfl)
      change wpAnyU _ _ _ _ _ _ _ _ (Act.put _ (some 36) _) _
      try simp only [Act.put, List.setIfInBounds_toArray, List.set_cons_zero, List.set_cons_succ]
      refine wpAnyU_pure (i := 16) (v := ?_) rfl (by kernel_rfl) (by kernel_rfl) (by kernel_rfl) (by rfl) (fun _ _ _ h => h) (Or.inl ⟨by rfl, ?_⟩) ?_
      rotate_left
      · (intro w'' _; go_simp; try with_reducible rfl)
      change wpAnyU _ _ _ _ _ _ _ _ (Act.put _ (some 37) _) _
      try simp only [Act.put, List.setIfInBounds_toArray, List.set_cons_zero, List.set_cons_succ]
      refine wpAnyU_ready (rs := [17]) (by kernel_rfl) (by simp) ?_
      refine AllReadyU.last rfl (by rfl) (fun Kn hKn => ?_) AllReadyU.nil
      go_simp
      have q12 := hH.out.c12 hk
      have f12 := hH.out.f12
      go_simp
      refine hKn.out _ _ ?_
      clear hKn Kn
      try simp only [Act.put, List.setIfInBounds_toArray, List.set_cons_zero, List.set_cons_succ]
      refine wpAnyU_done (by kernel_rfl) ?_ _
      have VN := Lib.hid (hH.out.store (.slice A' (j + 1) c'))
      have ON := Lib.hid (hH.out.own_store HO2.out (.slice A' (j + 1) c'))
      go_wp2_with fail
      exact ⟨⟨j + 1, by omega, by go_num, A', c', VN, ON⟩, by simp [RowKit.intOf]; omega⟩
    · have hb : decide (j < m) = false := by simpa using hlt
      obtain rfl : j = m := by omega
      go_wp2_with fail
      go_end0
      exact ⟨rfl, _, VV.out, HO.out⟩
end Go.Proofs.YtnhajhejkecihaaDoor
/- Install: the reference's Drop. -/
namespace Go.Proofs.YtnhajhejkecihaaDoor
open Go.RowKit Go.Lib
set_option linter.unusedVariables false
set_option linter.unusedSimpArgs false

section
variable {n : Nat} {w w' : World} {q : Nat} {u : RR} {ρ : RS}
def RR.put (u : RR) (k : Nat) (r : RE) : RR := { u with R := u.R.set k r }
theorem IsRef.base (h : IsRef n w q u ρ) : n ≤ w.heap.size := by
  have := h.low q (.inl rfl)
  have := h.foot_lt q (.inl rfl)
  omega
theorem getD_set {α : Type} {l : List α} {k : Nat} (hk : k < l.length) (x d : α) (j : Nat) : (l.set k x).getD j d = if j = k then x else l.getD j d := by
  simp only [List.getD_eq_getElem?_getD]
  by_cases h : j = k
  · subst h
    rw [List.getElem?_set_self hk, if_pos rfl]
    rfl
  · rw [List.getElem?_set_ne (fun e => h e.symm), if_neg h]
/-- One module of the reference has turned. -/
theorem IsRef.turn (h : IsRef n w q u ρ) {k g : Nat} (hk : k < ρ.L.length) (hA : u.A = some ⟨g, 0, none⟩) {e' : ME} {r' : RE} (hkp : Keep (fun i => i = g ∨ (u.R.getD k RE.dflt).v.ownBlock = some i) w w')
    (hrow : w'.ownsRow 0 76 13 (.slice (some ⟨g, 0, none⟩) ρ.L.length u.ac) ρ.L.length (rowR (u.R.set k r'))) (hf : Fits w' e' r')
    (hv : r'.v.ownBlock = (u.R.getD k RE.dflt).v.ownBlock ∨ ∃ b, r'.v.ownBlock = some b ∧ w.heap.size ≤ b) (hok : (ρ.put k e').Ok) :
    IsRef n w' q (u.put k r') (ρ.put k e') ∧ Keep (u.foot q) w w' ∧ ∀ i, (u.put k r').foot q i → u.foot q i ∨ w.heap.size ≤ i := by
  have hl : (ρ.put k e').L.length = ρ.L.length := by simp [RS.put]
  have hrow0 := h.row
  rw [hA] at hrow0
  obtain ⟨cg, hcg⟩ := own_type hrow0 (k := g) rfl
  have hkR : k < u.R.length := by rw [h.rlen]; exact hk
  have hvk : ∀ i, (u.R.getD k RE.dflt).v.ownBlock = some i → ∃ cur, w.heap[i]? = some (.cells cur 4 (0, 0)) := fun i e => own_type (h.fits k hk).own e
  have hfoot : ∀ i, (u.put k r').foot q i → u.foot q i ∨ w.heap.size ≤ i := by
    rintro i (h1 | h1 | h1 | ⟨r, hr, h1⟩)
    · exact .inl (.inl h1)
    · exact .inl (.inr (.inl h1))
    · exact .inl (.inr (.inr (.inl h1)))
    · rcases List.mem_or_eq_of_mem_set hr with hr | rfl
      · exact .inl (.inr (.inr (.inr ⟨r, hr, h1⟩)))
      · rcases hv with hv | ⟨b, hb, hlt⟩
        · exact .inl (.inr (.inr (.inr ⟨_, h.at_own hk, by rw [← hv]; exact h1⟩)))
        · rw [hb] at h1
          injection h1 with h1
          exact .inr (by omega)
  refine ⟨⟨?_, ?_, ?_, fun i hi => ?_, fun i j hij hj => ?_, fun i hi => ?_, hok⟩, Keep.mono hkp (fun i e => ?_), hfoot⟩
  · rw [hl]
    refine (hkp.block q (blk_lt h.hdr) ?_).trans h.hdr
    rintro (e | e)
    · exact cells_ne h.hdr hcg (by decide) e
    · obtain ⟨cur, hc⟩ := hvk q e
      exact cells_ne h.hdr hc (by decide) rfl
  · rw [hl]
    show w'.ownsRow 0 _ 13 (.slice u.A _ u.ac) _ _
    rw [hA]
    exact hrow
  · refine hkp.own h.inn (fun b hb => ?_)
    obtain ⟨cur, hc⟩ := own_type h.inn hb
    rintro (e | e)
    · exact cells_ne hc hcg (by decide) e
    · obtain ⟨cur', hc'⟩ := hvk b e
      exact cells_ne hc hc' (by decide) rfl
  · rw [hl] at hi
    rw [RS.at_put hk]
    show Fits w' _ ((u.R.set k r').getD i RE.dflt)
    rw [getD_set hkR]
    by_cases hik : i = k
    · rw [if_pos hik, if_pos hik]; exact hf
    · rw [if_neg hik, if_neg hik]
      refine (h.fits i hi).keep hkp (fun b hb => ?_)
      obtain ⟨cur, hc⟩ := own_type (h.fits i hi).own hb
      rintro (e | e)
      · exact cells_ne hc hcg (by decide) e
      · rcases Nat.lt_or_gt_of_ne hik with h1 | h1
        · exact h.apart i k h1 hk (hb.trans e.symm)
        · exact h.apart k i h1 hi (e.trans hb.symm)
  · rw [hl] at hj
    have ha := h.apart i j hij hj
    show ((u.R.set k r').getD i RE.dflt).v.ownBlock ≠ ((u.R.set k r').getD j RE.dflt).v.ownBlock
    rw [getD_set hkR, getD_set hkR]
    have hnew : ∀ i, i < ρ.L.length → ∀ b, w.heap.size ≤ b → (u.R.getD i RE.dflt).v.ownBlock ≠ some b := fun i hi b hb e => by
      have := own_lt (h.fits i hi).own b e
      omega
    by_cases hik : i = k
    · subst hik
      rw [if_pos rfl, if_neg (by omega)]
      rcases hv with hv | ⟨b, hb, hlt⟩
      · rw [hv]; exact ha
      · rw [hb]; exact fun e => hnew j hj b hlt e.symm
    · rw [if_neg hik]
      by_cases hjk : j = k
      · rw [if_pos hjk]
        rcases hv with hv | ⟨b, hb, hlt⟩
        · rw [hv, ← hjk]; exact ha
        · rw [hb]; exact hnew i (by omega) b hlt
      · rw [if_neg hjk]; exact ha
  · rcases hfoot i hi with h1 | h1
    · exact h.low i h1
    · have := h.base; omega
  · rcases e with e | e
    · exact .inr (.inl ⟨_, hA, e⟩)
    · exact .inr (.inr (.inr ⟨_, h.at_own hk, e⟩))
end
theorem own_some' {w : World} {base n : Nat} {e : TypeId} {v : Value} {xs : List Value} (h : w.ownsRow base e 1 v n xs) (hn : 0 < n) : ∃ b, v.ownBlock = some b ∧ base ≤ b := by
  rcases h.2 with ⟨_, h2⟩ | ⟨g, cap, cur, h1, hb, _⟩
  · omega
  · exact ⟨g, by rw [h1]; rfl, hb⟩
theorem one_cells {r : RE} (h : r.cells.toArray.all (·.oneCell') = true) {i : Nat} {v : Value} {r' : RE} (hr : r'.cells = r.cells.set i v) (hv : v.oneCell' = true) : r'.cells.toArray.all (·.oneCell') = true := by
  rw [hr]
  rw [List.all_toArray, List.all_eq_true] at h ⊢
  intro x hx
  rcases List.mem_or_eq_of_mem_set hx with hx | rfl
  · exact h x hx
  · exact hv
set_option maxRecDepth 100000 in
set_option maxHeartbeats 2000000 in
theorem rdrop_any {n : Nat} {w : World} {q : Nat} {u : RR} {ρ : RS} (h : IsRef n w q u ρ) (id : Int) :
    Calls Tryd.prog 50 #[.pointer (some ⟨q, 0, none⟩), .int .i64 id] w fun e w' => e = .returned (.int .i64 (ρ.dropR id).1) ∧ ∃ u', IsRef n w' q u' (ρ.dropR id).2 ∧ Keep (u.foot q) w w' ∧ ∀ i, u'.foot q i → u.foot q i ∨ w.heap.size ≤ i := by
  have HT := Lib.hid (rthere_any h id)
  have HOK := Lib.hid (h.ok.drop id)
  unfold RS.dropR at HOK ⊢
  cases hth : ρ.there id with
  | false =>
    rw [if_pos rfl]
    rw [hth] at HT
    have K0 := Lib.hid (show ∃ u', IsRef n w q u' ρ ∧ Keep (u.foot q) w w ∧ ∀ i, u'.foot q i → u.foot q i ∨ w.heap.size ≤ i from ⟨u, h, Keep.refl _ _, fun _ => .inl⟩)
    clear hth h HOK
    go_enter Tryd.func50, Tryd.ntmps50
    go_wp2_with fail
    ((with_reducible refine HT.out.mono ?_); rintro ee w' ⟨rfl, rfl⟩)
    go_wp2_with fail
    go_ret
    exact ⟨rfl, K0.out⟩
  | true =>
    rw [hth] at HT
    rw [hth, if_neg (by decide)] at HOK
    rw [if_neg (by decide)]
    obtain ⟨k, rfl, hk, hd⟩ := RS.there_at hth
    simp only [Int.toNat_natCast] at HOK ⊢
    have c0 := h.c0
    obtain ⟨g, hA, _, hcells⟩ := h.rows (by omega)
    have q10 := hcells k 10 hk (by omega)
    have hfit := h.fits k hk
    have hrow := h.row
    rw [hA] at c0 hrow
    have f10 := hrow.frozenAt (k * 13 + 10)
    have hst := (hrow.stored (k * 13 + 10) (.bool true)).1
    obtain ⟨cg, hcg⟩ := own_type hrow (k := g) rfl
    have hqg : q ≠ g := cells_ne h.hdr hcg (by decide)
    have ks := keep_set (Keep.refl (fun j => j = g) w) (k * 13 + 10) (.bool true)
    have hh := (ks.block q (blk_lt h.hdr) hqg).trans h.hdr
    rw [hA] at hh
    have hcp := h.ok.cpus
    have hln := h.ok.len
    have hkR : k < u.R.length := by rw [h.rlen]; exact hk
    have HO := Lib.hid (rowe_any (w.setCell ⟨g, k * 13 + 10, none⟩ (.bool true)) hh hst hk hln hcp.2)
    have HF := Lib.hid (fun (w2 : World) (v : Value) (ho : OW (w.setCell ⟨g, k * 13 + 10, none⟩ (.bool true)) q g ρ.L.length u.ac ρ.inn.length u.I u.ic ((rowR u.R).set (k * 13 + 10) (.bool true)) k v w2) (hb : w2.ownsRow (w.setCell ⟨g, k * 13 + 10, none⟩ (.bool true)).heap.size 4 1 v ρ.inn.length (bools (List.replicate ρ.inn.length true))) => by
      have hsz : (w.setCell ⟨g, k * 13 + 10, none⟩ (.bool true)).heap.size = w.heap.size := by simp [World.setCell]
      rw [hsz] at hb
      obtain ⟨b, hvb, hlb⟩ := own_some' hb (by omega)
      have hR1 := rowR_set u.R k 10 (.bool true) { (u.R.getD k RE.dflt) with d := true } hkR (by omega) rfl
      have hR2 := rowR_set (u.R.set k { (u.R.getD k RE.dflt) with d := true }) k 12 v { (u.R.getD k RE.dflt) with d := true, v := v } (by rw [List.length_set]; exact hkR) (by omega) (by rw [getD_set hkR, if_pos rfl]; rfl)
      rw [List.set_set, hR1] at hR2
      have hone1 := one_cells hfit.one (r' := { (u.R.getD k RE.dflt) with d := true }) (i := 10) (v := .bool true) rfl rfl
      have hv1 : v.oneCell' = true := by
        obtain ⟨A, c, rfl⟩ := own_slice hb
        rfl
      have hone2 := one_cells hone1 (r' := { (u.R.getD k RE.dflt) with d := true, v := v }) (i := 12) (v := v) rfl hv1
      have hgo : (ρ.at_ k).gone = false := by unfold ME.gone; rw [hd]; rfl
      refine h.turn hk hA (e' := (ρ.at_ k).drop ρ.owing) (r' := { (u.R.getD k RE.dflt) with d := true, v := v }) (Keep.mono (Keep.trans ks ho.keep) (fun i e => .inl e)) (by rw [hR2]; exact ho.row) ⟨hfit.b, hfit.a, rfl, ?_, ?_, hone2⟩ (.inr ⟨b, hvb, hlb⟩) HOK.out
      · rw [drop_gone hcp.1]; exact hfit.g.trans hgo
      · show w2.ownsRow 0 _ 1 v ((ρ.at_ k).drop ρ.owing).owed.length _
        have e1 : ((ρ.at_ k).drop ρ.owing).owed = List.replicate ρ.inn.length true := rfl
        rw [e1, List.length_replicate]
        exact own_zero hb)
    obtain ⟨N, hN⟩ : ∃ N, ρ.L.length = N := ⟨_, rfl⟩
    rw [hN] at hk hln c0 HO HF
    clear hth h HOK hcells hfit hrow hst hcg hqg ks hh hN hA hkR hd hcp
    go_enter Tryd.func50, Tryd.ntmps50
    go_wp2_with fail
    ((with_reducible refine HT.out.mono ?_); rintro ee w' ⟨rfl, rfl⟩)
    go_wp2_with fail
    ((with_reducible refine HO.out.mono ?_); rintro ee w2 ⟨rfl, v, ho, hb⟩)
    have HX := Lib.hid (HF.out w2 v ho hb)
    clear ho hb HF HO
    go_wp2_with fail
    go_ret
    exact ⟨rfl, _, HX.out⟩
end Go.Proofs.YtnhajhejkecihaaDoor
