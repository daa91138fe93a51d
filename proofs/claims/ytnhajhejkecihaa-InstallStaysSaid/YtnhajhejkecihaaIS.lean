/- Install: a store in memory; closed, cpu, lines. -/
import Derived.Test.YtnhajhejkecihaaIN
namespace Go.Proofs.Ytnhajhejkecihaa
open Go.RowKit Go.Lib
set_option linter.unusedVariables false

/-- The other fields of a module. -/
structure MX where
  (x0 x1 x2 x3 x4 x5 x6 x7 : Value)
def mcells (b : Bytes) (x : MX) : List Value := [x.x0, x.x1, .string (sb b), x.x2, x.x3, x.x4, x.x5, x.x6, x.x7]
def ecells (e : ME) (x : MX) (o : Nat) : List Value := [.int .i64 e.id, .int .i64 ((16 * e.a : Nat) : Int), x.x0, x.x1, .string (sb e.bytes), x.x2, x.x3, x.x4, x.x5, x.x6, x.x7, .bool e.dropped, .map (some o)]
/-- Where a store lies. -/
structure SR where
  bb : Nat
  br : BR
  ib : Nat
  ic : Nat
  A : Option Addr
  ac : Nat
  es : List Nat
  os : List Nat
  xs : List MX
def SR.foot (r : SR) (p k : Nat) : Prop := k = p ∨ r.br.foot r.bb k ∨ k = r.ib ∨ (∃ a, r.A = some a ∧ k = a.block) ∨ k ∈ r.es ∨ k ∈ r.os
def owedS (l : List Bool) : Int → Bool := fun i => decide (0 ≤ i) && l.getD i.toNat false
def MX.dflt : MX := ⟨undef, undef, undef, undef, undef, undef, undef, undef⟩
def ME.dflt : ME := ⟨0, 0, [], false, []⟩
/-- The memory and the caches do not lie about a module. -/
structure Coh (s : MS) (M : Bytes) (fs : List Cache) : Prop where
  len : fs.length = s.inn.length
  mem : ∀ e ∈ s.all, (M.drop (16 * e.a)).take e.bytes.length = e.bytes
  cache : ∀ c, c < fs.length → ∀ e ∈ s.all, e.owed.getD c false = false → ∀ k : Nat, e.a ≤ k → k < e.stop → (fs.getD c (fun _ => none)) k = none ∨ (fs.getD c (fun _ => none)) k = some (line M k)
structure IsStore (n : Nat) (w : World) (p : Nat) (r : SR) (s : MS) : Prop where
  hdr : w.heap[p]? = some (.cells #[.pointer (some ⟨r.bb, 0, none⟩), .slice (some ⟨r.ib, 0, none⟩) s.inn.length r.ic, .slice r.A s.all.length r.ac, .int .i64 s.next] 57 (0, 0))
  board : ∃ M fs, IsBoard w r.bb r.br M fs ∧ Coh s M fs
  inn : w.ownsRow 0 3 1 (.slice (some ⟨r.ib, 0, none⟩) s.inn.length r.ic) s.inn.length (ints s.inn)
  row : w.ownsRow 0 63 1 (.slice r.A s.all.length r.ac) s.all.length (r.es.map fun b => .pointer (some ⟨b, 0, none⟩))
  ents : ∀ i, i < s.all.length → w.heap[r.es.getD i 0]? = some (.cells (ecells (s.all.getD i ME.dflt) (r.xs.getD i MX.dflt) (r.os.getD i 0)).toArray 66 (0, 0)) ∧
    FB Try.prog 3 4 w (r.os.getD i 0) (owedS (s.all.getD i ME.dflt).owed) ((s.all.getD i ME.dflt).owed.count true)
  esN : r.es.Nodup
  maps : (r.br.ms ++ r.os).Nodup
  oslen : r.os.length = s.all.length ∧ r.xs.length = s.all.length
  low : ∀ k, r.foot p k → n ≤ k
  inv : s.Inv
section
variable {n : Nat} {w w' : World} {p : Nat} {r : SR} {s : MS}
theorem IsStore.eslen (h : IsStore n w p r s) : r.es.length = s.all.length := by
  have := h.row.1
  simpa using this
theorem fb_map {w : World} {b c : Nat} {S : Int → Bool} (h : FB Try.prog 3 4 w b S c) : ∃ es clock, w.heap[b]? = some (.map es clock) := by
  obtain ⟨D, ⟨es, clock, hb, _⟩, _⟩ := h
  exact ⟨es, clock, hb⟩
theorem IsStore.c0 (h : IsStore n w p r s) : w.cell? ⟨p, 0, none⟩ = some (.pointer (some ⟨r.bb, 0, none⟩)) := (blk_cell h.hdr 0).trans rfl
theorem IsStore.c1 (h : IsStore n w p r s) : w.cell? ⟨p, 1, none⟩ = some (.slice (some ⟨r.ib, 0, none⟩) s.inn.length r.ic) := (blk_cell h.hdr 1).trans rfl
theorem IsStore.c2 (h : IsStore n w p r s) : w.cell? ⟨p, 2, none⟩ = some (.slice r.A s.all.length r.ac) := (blk_cell h.hdr 2).trans rfl
theorem IsStore.c3 (h : IsStore n w p r s) : w.cell? ⟨p, 3, none⟩ = some (.int .i64 s.next) := (blk_cell h.hdr 3).trans rfl
theorem IsStore.ptr (h : IsStore n w p r s) {i : Nat} (hi : i < s.all.length) : ∃ g, r.A = some ⟨g, 0, none⟩ ∧ w.cell? ⟨g, i, none⟩ = some (.pointer (some ⟨r.es.getD i 0, 0, none⟩)) := by
  rcases h.row.2 with ⟨_, h2⟩ | ⟨g, cap, cur, h1, _, h3, h4, _, h6, h7⟩
  · omega
  · injection h1 with h1 _ _
    have he : i < r.es.length := by rw [h.eslen]; exact hi
    have h8 : (cur.toList.take (s.all.length * 1))[i]? = (r.es.map fun b => Value.pointer (some ⟨b, 0, none⟩))[i]? := by rw [h7]
    rw [List.getElem?_take_of_lt (by omega), List.getElem?_map, List.getElem?_eq_getElem he] at h8
    refine ⟨g, h1, ?_⟩
    rw [blk_cell h3, List.getD_eq_getElem?_getD, List.getElem?_eq_getElem he]
    simpa using h8
theorem IsStore.ecell (h : IsStore n w p r s) {i : Nat} (hi : i < s.all.length) (j : Nat) : w.cell? ⟨r.es.getD i 0, j, none⟩ = (ecells (s.all.getD i ME.dflt) (r.xs.getD i MX.dflt) (r.os.getD i 0))[j]? := by
  rw [blk_cell (h.ents i hi).1, List.getElem?_toArray]
theorem IsStore.keep {F : Nat → Prop} (h : IsStore n w p r s) (hk : Keep F w w') (hF : ∀ k, r.foot p k → ¬ F k) : IsStore n w' p r s := by
  obtain ⟨M, fs, hb, hc⟩ := h.board
  refine ⟨(hk.block p (blk_lt h.hdr) (hF p (.inl rfl))).trans h.hdr, ⟨M, fs, hb.keep hk (fun k hk' => hF k (.inr (.inl hk'))), hc⟩, hk.own h.inn (fun k e => by simp [Value.ownBlock] at e; subst e; exact hF _ (.inr (.inr (.inl rfl)))),
    hk.own h.row (fun k e => ?_), fun i hi => ⟨(hk.block _ (blk_lt (h.ents i hi).1) (hF _ (.inr (.inr (.inr (.inr (.inl (getD_mem (by rw [h.eslen]; exact hi))))))))).trans (h.ents i hi).1, (h.ents i hi).2.keep hk (hF _ (.inr (.inr (.inr (.inr (.inr (getD_mem (by rw [h.oslen.1]; exact hi))))))))⟩, h.esN, h.maps, h.oslen, h.low, h.inv⟩
  cases hA : r.A with
  | none => rw [hA] at e; simp [Value.ownBlock] at e
  | some a =>
    rw [hA] at e
    simp [Value.ownBlock] at e
    subst e
    exact hF _ (.inr (.inr (.inr (.inl ⟨a, hA, rfl⟩))))
theorem IsStore.foot_lt (h : IsStore n w p r s) : ∀ k, r.foot p k → k < w.heap.size := by
  rintro k (rfl | hk | rfl | ⟨a, ha, rfl⟩ | hk | hk)
  · exact blk_lt h.hdr
  · obtain ⟨M, fs, hb, _⟩ := h.board
    exact hb.foot_lt k hk
  · exact own_lt h.inn _ rfl
  · exact own_lt h.row _ (by rw [ha]; rfl)
  · obtain ⟨i, hi, rfl⟩ := List.getElem_of_mem hk
    have := blk_lt (h.ents i (by rw [← h.eslen]; exact hi)).1
    rwa [List.getD_eq_getElem?_getD, List.getElem?_eq_getElem hi] at this
  · obtain ⟨i, hi, rfl⟩ := List.getElem_of_mem hk
    have := (h.ents i (by rw [← h.oslen.1]; exact hi)).2.lt
    rwa [List.getD_eq_getElem?_getD, List.getElem?_eq_getElem hi] at this
/-- New blocks, and what they hold, make no odds to a store. -/
theorem IsStore.since (h : IsStore n w p r s) (hk : Since w.heap.size w w') : IsStore n w' p r s := h.keep hk (fun k hf => by have := h.foot_lt k hf; omega)
theorem IsStore.quiet (h : IsStore n w p r s) (hk : Keep (fun _ => False) w w') : IsStore n w' p r s := h.keep hk (fun _ _ => id)
end
set_option maxRecDepth 100000 in
theorem closed_any {n : Nat} {w : World} {p : Nat} {r : SR} {s : MS} (h : IsStore n w p r s) : Calls Try.prog 19 #[.pointer (some ⟨p, 0, none⟩)] w fun e w' => e = .returned (.bool false) ∧ w = w' := by
  have c0 := h.c0
  clear h
  go_enter Try.func19, Try.ntmps19
  go_wp2_with fail
  go_ret
  exact ⟨rfl, rfl⟩
set_option maxRecDepth 100000 in
theorem cpu_any {n : Nat} {w : World} {p : Nat} {r : SR} {s : MS} (h : IsStore n w p r s) (c : Nat) (hc : c < s.inn.length) : Calls Try.prog 23 #[.pointer (some ⟨p, 0, none⟩), .int .i64 c] w fun e w' => e = .returned (.bool true) ∧ w = w' := by
  have c1 := h.c1
  have hb : decide (c < s.inn.length) = true := by simpa using hc
  clear h
  go_enter Try.func23, Try.ntmps23
  go_wp2_with fail
  go_ret
  exact ⟨rfl, rfl⟩
set_option maxRecDepth 100000 in
set_option maxHeartbeats 1000000 in
theorem lines_any {w : World} {b L a : Nat} {v : ByteArray} (h1 : w.cell? ⟨b, 1, none⟩ = some (.int .i64 ((16 * a : Nat) : Int))) (h4 : w.cell? ⟨b, 4, none⟩ = some (.string v)) (hL : v.size = L) (ha : 16 * a + L ≤ 4096) :
    Calls Try.prog 31 #[.pointer (some ⟨b, 0, none⟩)] w fun e w' => e = .returned (.tuple #[.int .i64 (a : Int), .int .i64 ((a + lns L : Nat) : Int)]) ∧ ∃ m, w' = w.drewN m := by
  have e1 : (16 * (a : Int)) / 16 = a := by omega
  have e2 : ((L : Int) + 16 - 1) / 16 = (lns L : Int) := by unfold lns; omega
  obtain ⟨l, hl⟩ : ∃ l, lns L = l := ⟨_, rfl⟩
  rw [hl] at e2 ⊢
  have hll : l ≤ 300 := by rw [← hl]; unfold lns; omega
  clear hl
  go_enter Try.func31, Try.ntmps31
  go_wp2_with fail
  go_quiet (fail)
  go_wp2_with fail
  go_ret2
  exact ⟨by simp, nq, rfl⟩
end Go.Proofs.Ytnhajhejkecihaa
