/- Install: the contracts of a store, in one word. -/
import Derived.Test.YtnhajhejkecihaaI9
namespace Go.Proofs.Ytnhajhejkecihaa
open Go.RowKit Go.Lib
set_option linter.unusedVariables false

/-- A store that was made since w0; the blocks of C are none of its own. -/
def ST (n : Nat) (w0 : World) (p : Nat) (s : MS) (C : List (Nat × Obj)) (w : World) : Prop := ∃ r, IsStore n w p r s ∧ Since n w0 w ∧ ∀ x ∈ C, w.heap[x.1]? = some x.2 ∧ ¬ r.foot p x.1
section
variable {n : Nat} {w0 w : World} {p : Nat} {s : MS} {C : List (Nat × Obj)}
theorem ST.inv (h : ST n w0 p s C w) : s.Inv := by obtain ⟨r, h1, _⟩ := h; exact h1.inv
theorem ST.since (h : ST n w0 p s C w) : Since n w0 w := by obtain ⟨r, _, h2, _⟩ := h; exact h2
theorem ST.at_ (h : ST n w0 p s C w) {b : Nat} {o : Obj} (hx : (b, o) ∈ C) : w.heap[b]? = some o := by obtain ⟨r, _, _, h3⟩ := h; exact (h3 _ hx).1
theorem ST.low (h : ST n w0 p s C w) : n ≤ w.heap.size := by
  obtain ⟨r, h1, _⟩ := h
  have := h1.low p (.inl rfl)
  have := h1.foot_lt p (.inl rfl)
  omega
theorem ST.step {r r' : SR} {s' : MS} {w' : World} (h1 : IsStore n w p r s) (h2 : Since n w0 w) (h3 : ∀ x ∈ C, w.heap[x.1]? = some x.2 ∧ ¬ r.foot p x.1) (g1 : IsStore n w' p r' s') (g2 : Keep (r.foot p) w w') (g3 : ∀ k, r'.foot p k → r.foot p k ∨ w.heap.size ≤ k) : ST n w0 p s' C w' :=
  ⟨r', g1, Keep.trans h2 (Keep.mono g2 h1.low), fun x hx => ⟨(g2.block _ (blk_lt (h3 x hx).1) (h3 x hx).2).trans (h3 x hx).1, fun hf => by
    rcases g3 _ hf with hf | hf
    · exact (h3 x hx).2 hf
    · have := blk_lt (h3 x hx).1
      omega⟩⟩
theorem ST.later (h : ST n w0 p s C w) {w' : World} (hk : Since w.heap.size w w') : ST n w0 p s C w' := by
  have hl := h.low
  obtain ⟨r, h1, h2, h3⟩ := h
  exact ⟨r, h1.since hk, Keep.trans h2 (Keep.mono hk (fun i hi => Nat.le_trans hl hi)), fun x hx => ⟨(hk.block _ (blk_lt (h3 x hx).1) (by have := blk_lt (h3 x hx).1; omega)).trans (h3 x hx).1, (h3 x hx).2⟩⟩
theorem ST.quiet (h : ST n w0 p s C w) {w' : World} (hk : Keep (fun _ => False) w w') : ST n w0 p s C w' := h.later (Since.of hk)
theorem ST.more (h : ST n w0 p s C w) (o : Obj) : ST n w0 p s ((w.heap.size, o) :: C) (w.alloc o) := by
  have hl := h.low
  obtain ⟨r, h1, h2, h3⟩ := h.quiet ((Keep.refl (fun _ => False) w).alloc' o)
  obtain ⟨r0, h10, h20, h30⟩ := h
  have k := (Keep.refl (fun _ => False) w).alloc' o
  refine ⟨r0, h10.quiet k, Keep.trans h20 (Since.of k), fun x hx => ?_⟩
  rcases List.mem_cons.1 hx with rfl | hx
  · exact ⟨heap_alloc_new w o, fun hf => by have := h10.foot_lt _ hf; simp at this⟩
  · exact ⟨(k.block _ (blk_lt (h30 x hx).1) id).trans (h30 x hx).1, (h30 x hx).2⟩
theorem st_new (w : World) (c : Nat) (hc : 1 ≤ c ∧ c ≤ 4) : Calls Try.prog 6 #[.int .i64 c] w fun e w' => ∃ p, e = .returned (.tuple #[.pointer (some ⟨p, 0, none⟩), .int .i64 0]) ∧ ST w.heap.size w p (MS.new c) [] w' :=
  (new_any w c hc).mono fun e w' ⟨p, r, h1, h2, h3⟩ => ⟨p, h1, r, h2, h3, fun x hx => (by cases hx)⟩
theorem st_add (h : ST n w0 p s C w) {b : Bytes} (x : MX) (hb : 0 < b.length ∧ b.length ≤ 4096) (hf : s.all.length < 16) {a : Nat} (hp : s.place b.length = some a) (hnx : s.next < 1000000) :
    Calls Try.prog 8 #[.pointer (some ⟨p, 0, none⟩), modV b x] w fun e w' => e = .returned (.tuple #[.int .i64 s.next, .int .i64 0]) ∧ ST n w0 p (s.added b a) C w' := by
  obtain ⟨r, h1, h2, h3⟩ := h
  exact (add_some h1 x hb hf hp hnx).mono fun e w' ⟨g1, r', g2, g3, g4⟩ => ⟨g1, ST.step h1 h2 h3 g2 g3 g4⟩
theorem st_add_none (h : ST n w0 p s C w) {b : Bytes} (x : MX) (hb : 0 < b.length ∧ b.length ≤ 4096) (hf : s.all.length < 16) (hp : s.place b.length = none) :
    Calls Try.prog 8 #[.pointer (some ⟨p, 0, none⟩), modV b x] w fun e w' => e = .returned (.tuple #[.int .i64 0, .int .i64 2]) ∧ ST n w0 p s C w' := by
  obtain ⟨r, h1, h2, h3⟩ := id h
  exact (add_none h1 x hb hf hp).mono fun e w' ⟨g1, g3⟩ => ⟨g1, h.later g3⟩
theorem st_enter_none (h : ST n w0 p s C w) {c : Nat} (hc : c < s.inn.length) (id : Int) (hf : s.find id = none) : Calls Try.prog 11 #[.pointer (some ⟨p, 0, none⟩), .int .i64 c, .int .i64 id] w fun e w' => e = .returned (.tuple #[.string ⟨#[]⟩, .int .i64 14]) ∧ ST n w0 p s C w' := by
  obtain ⟨r, h1, h2, h3⟩ := h
  exact (enter_none h1 hc id hf).mono fun e w' ⟨g1, g2⟩ => ⟨g1, by subst g2; exact ⟨r, h1, h2, h3⟩⟩
theorem st_enter_stale (h : ST n w0 p s C w) {c : Nat} (hc : c < s.inn.length) (id : Int) {i : Nat} (hf : s.find id = some i) (hin : s.inn.getD c 0 < 0) (ho : (s.all.getD i ME.dflt).owed.getD c false = true) :
    Calls Try.prog 11 #[.pointer (some ⟨p, 0, none⟩), .int .i64 c, .int .i64 id] w fun e w' => e = .returned (.tuple #[.string ⟨#[]⟩, .int .i64 40]) ∧ ST n w0 p s C w' := by
  obtain ⟨r, h1, h2, h3⟩ := h
  exact (enter_stale h1 hc id hf hin ho).mono fun e w' ⟨g1, g2⟩ => ⟨g1, by subst g2; exact ⟨r, h1, h2, h3⟩⟩
theorem st_enter_ok (h : ST n w0 p s C w) {c : Nat} (hc : c < s.inn.length) (id : Int) {i : Nat} (hf : s.find id = some i) (hin : s.inn.getD c 0 < 0) (ho : (s.all.getD i ME.dflt).owed.getD c false = false) :
    Calls Try.prog 11 #[.pointer (some ⟨p, 0, none⟩), .int .i64 c, .int .i64 id] w fun e w' => e = .returned (.tuple #[.string (sb (s.all.getD i ME.dflt).bytes), .int .i64 0]) ∧ ST n w0 p (s.left c id) C w' := by
  obtain ⟨r, h1, h2, h3⟩ := h
  exact (enter_ok h1 hc id hf hin ho).mono fun e w' ⟨g1, g2, g3⟩ => ⟨g1, ST.step h1 h2 h3 g2 g3 (fun _ h => .inl h)⟩
theorem st_busy (h : ST n w0 p s C w) {c : Nat} (hc : c < s.inn.length) (hin : 0 ≤ s.inn.getD c 0) : Calls Try.prog 9 #[.pointer (some ⟨p, 0, none⟩), .int .i64 c] w fun e w' => e = .returned (.int .i64 41) ∧ ST n w0 p s C w' := by
  obtain ⟨r, h1, h2, h3⟩ := h
  exact (safe_busy h1 hc hin).mono fun e w' ⟨g1, g2⟩ => ⟨g1, by subst g2; exact ⟨r, h1, h2, h3⟩⟩
theorem st_safe (h : ST n w0 p s C w) {c : Nat} (hc : c < s.inn.length) (hin : s.inn.getD c 0 < 0) : Calls Try.prog 9 #[.pointer (some ⟨p, 0, none⟩), .int .i64 c] w fun e w' => e = .returned (.int .i64 0) ∧ ST n w0 p (s.passed c) C w' := by
  obtain ⟨r, h1, h2, h3⟩ := h
  exact (safe_any h1 hc hin).mono fun e w' ⟨g1, r', g2, g3, g4⟩ => ⟨g1, ST.step h1 h2 h3 g2 g3 g4⟩
theorem st_leave (h : ST n w0 p s C w) {c : Nat} (hc : c < s.inn.length) (hin : 0 ≤ s.inn.getD c 0) : Calls Try.prog 13 #[.pointer (some ⟨p, 0, none⟩), .int .i64 c] w fun e w' => e = .returned (.int .i64 0) ∧ ST n w0 p (s.left c (-1)) C w' := by
  obtain ⟨r, h1, h2, h3⟩ := h
  exact (leave_any h1 hc hin).mono fun e w' ⟨g1, g2, g3⟩ => ⟨g1, ST.step h1 h2 h3 g2 g3 (fun _ h => .inl h)⟩
theorem st_drop (h : ST n w0 p s C w) (id : Int) {i : Nat} (hf : s.find id = some i) : Calls Try.prog 12 #[.pointer (some ⟨p, 0, none⟩), .int .i64 id] w fun e w' => e = .returned (.int .i64 0) ∧ ST n w0 p (s.dropped i (s.all.getD i ME.dflt)) C w' := by
  obtain ⟨r, h1, h2, h3⟩ := h
  exact (drop_any h1 id hf).mono fun e w' ⟨g1, r', g2, g3, g4⟩ => ⟨g1, ST.step h1 h2 h3 g2 g3 g4⟩
theorem st_free (h : ST n w0 p s C w) : Calls Try.prog 10 #[.pointer (some ⟨p, 0, none⟩)] w fun e w' => e = .returned (.int .i64 ((16 * frees (takenB s.all) 256 : Nat) : Int)) ∧ ST n w0 p s C w' := by
  obtain ⟨r, h1, h2, h3⟩ := id h
  exact (free_any h1).mono fun e w' ⟨g1, g2⟩ => ⟨g1, h.later g2⟩
theorem st_live (h : ST n w0 p s C w) : Calls Try.prog 14 #[.pointer (some ⟨p, 0, none⟩)] w fun e w' => (∃ A c, e = .returned (.slice A (liveL s.all).length c) ∧ w'.ownsRow w.heap.size 3 1 (.slice A (liveL s.all).length c) (liveL s.all).length (ints (liveL s.all))) ∧ ST n w0 p s C w' := by
  obtain ⟨r, h1, h2, h3⟩ := id h
  exact (live_any h1).mono fun e w' ⟨g1, g2⟩ => ⟨g1, h.later g2⟩
end
end Go.Proofs.Ytnhajhejkecihaa
