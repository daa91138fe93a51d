/- Install: how a store is turned: its board, its processors, an entry. -/
import Derived.Test.YtnhajhejkecihaaIV
namespace Go.Proofs.Ytnhajhejkecihaa
open Go.RowKit Go.Lib
set_option linter.unusedVariables false
set_option linter.unnecessarySimpa false
set_option linter.unusedSimpArgs false

/-- A block of cells of type t: what else it is not. -/
theorem cells_ne {w : World} {a b : Nat} {cs ds : Array Value} {t u : TypeId} {fr gr : Nat × Nat} (h1 : w.heap[a]? = some (.cells cs t fr)) (h2 : w.heap[b]? = some (.cells ds u gr)) (h : t ≠ u) : a ≠ b := fun e => by
  subst e
  rw [h1] at h2
  injection h2 with h2
  injection h2 with _ h3
  exact h h3
theorem map_ne {w : World} {a b : Nat} {cs : Array Value} {t : TypeId} {fr : Nat × Nat} {es : Array MapEntry} {ck : Nat} (h1 : w.heap[a]? = some (.cells cs t fr)) (h2 : w.heap[b]? = some (.map es ck)) : a ≠ b := fun e => by
  subst e
  rw [h1] at h2
  cases h2
section
variable {n : Nat} {w w' : World} {p : Nat} {r : SR} {s : MS}
theorem IsStore.os_map (h : IsStore n w p r s) {k : Nat} (hk : k ∈ r.os) : ∃ es ck, w.heap[k]? = some (.map es ck) := by
  obtain ⟨i, hi, rfl⟩ := List.getElem_of_mem hk
  have := fb_map (h.ents i (by rw [← h.oslen.1]; exact hi)).2
  rwa [List.getD_eq_getElem?_getD, List.getElem?_eq_getElem hi] at this
theorem IsStore.es_cells (h : IsStore n w p r s) {k : Nat} (hk : k ∈ r.es) : ∃ cs, w.heap[k]? = some (.cells cs 66 (0, 0)) := by
  obtain ⟨i, hi, rfl⟩ := List.getElem_of_mem hk
  have := (h.ents i (by rw [← h.eslen]; exact hi)).1
  rw [List.getD_eq_getElem?_getD, List.getElem?_eq_getElem hi] at this
  exact ⟨_, this⟩
theorem IsStore.row_cells (h : IsStore n w p r s) {k : Nat} (hk : (Value.slice r.A s.all.length r.ac).ownBlock = some k) : ∃ cs, w.heap[k]? = some (.cells cs 63 (0, 0)) := own_type h.row hk
theorem IsStore.inn_cells (h : IsStore n w p r s) : ∃ cs, w.heap[r.ib]? = some (.cells cs 3 (0, 0)) := own_type h.inn rfl
/-- A block of cells that is none of the board's. -/
theorem board_far {b : Nat} {br : BR} {M : Bytes} {fs : List Cache} (h : IsBoard w b br M fs) {k : Nat} {cs : Array Value} {t : TypeId} {fr : Nat × Nat} (hk : w.heap[k]? = some (.cells cs t fr)) (h1 : t ≠ 78) (h2 : t ≠ 5) (h3 : t ≠ 79) : ∀ q, br.foot b q → q ≠ k := by
  rintro q (rfl | rfl | rfl | hq)
  · exact cells_ne h.hdr hk (Ne.symm h1)
  · obtain ⟨c, hc⟩ := own_type h.mem (k := br.mb) rfl
    exact cells_ne hc hk (Ne.symm h2)
  · obtain ⟨c, hc⟩ := own_type h.caches (k := br.cb) rfl
    exact cells_ne hc hk (Ne.symm h3)
  · obtain ⟨es, ck, hm⟩ := h.mem_map hq
    exact fun e => map_ne hk hm e.symm
/-- The board is turned. -/
theorem IsStore.turnBoard (h : IsStore n w p r s) {M : Bytes} {fs : List Cache} (hb : IsBoard w' r.bb r.br M fs) (hc : Coh s M fs) {k0 : Nat} (hk : Keep (fun k => k = k0) w w') (h0 : k0 = r.br.mb ∨ k0 ∈ r.br.ms) : IsStore n w' p r s := by
  obtain ⟨M0, fs0, hb0, _⟩ := h.board
  have kind : (∃ cs, w.heap[k0]? = some (.cells cs 5 (0, 0))) ∨ (k0 ∈ r.br.ms ∧ ∃ es ck, w.heap[k0]? = some (.map es ck)) := by
    rcases h0 with rfl | h0
    · exact .inl (own_type hb0.mem rfl)
    · exact .inr ⟨h0, hb0.mem_map h0⟩
  have far : ∀ {k : Nat} {cs : Array Value} {t : TypeId}, w.heap[k]? = some (.cells cs t (0, 0)) → t ≠ 5 → k ≠ k0 := fun hc ht => by
    rcases kind with ⟨c, h1⟩ | ⟨_, es, ck, h1⟩
    · exact cells_ne hc h1 ht
    · exact map_ne hc h1
  have farm : ∀ k ∈ r.os, k ≠ k0 := fun k hk => by
    rcases kind with ⟨c, h1⟩ | ⟨h1, _⟩
    · obtain ⟨es, ck, hm⟩ := h.os_map hk
      exact fun e => map_ne h1 hm e.symm
    · have := List.nodup_append.1 h.maps
      exact fun e => this.2.2 _ h1 _ hk e.symm
  refine ⟨(hk.block p (blk_lt h.hdr) (far h.hdr (by decide))).trans h.hdr, ⟨M, fs, hb, hc⟩, hk.own h.inn (fun k e => ?_), hk.own h.row (fun k e => ?_), fun i hi => ?_, h.esN, h.maps, h.oslen, h.low, h.inv⟩
  · obtain ⟨c, hcc⟩ := own_type h.inn e
    exact far hcc (by decide)
  · obtain ⟨c, hcc⟩ := own_type h.row e
    exact far hcc (by decide)
  · exact ⟨(hk.block _ (blk_lt (h.ents i hi).1) (far (h.ents i hi).1 (by decide))).trans (h.ents i hi).1, (h.ents i hi).2.keep hk (farm _ (getD_mem (by rw [h.oslen.1]; exact hi)))⟩
/-- The modules that processors are in are turned. -/
theorem IsStore.turnInn (h : IsStore n w p r s) {c : Nat} (hc : c < s.inn.length) (v : Int) (hv : -1 ≤ v ∧ v < s.next) : IsStore n (w.setCell ⟨r.ib, c, none⟩ (.int .i64 v)) p r (s.left c v) := by
  have hk : Keep (fun k => k = r.ib) w (w.setCell ⟨r.ib, c, none⟩ (.int .i64 v)) := keep_set (Keep.refl (fun i => i = r.ib) w) c (.int .i64 v)
  obtain ⟨ics, hic⟩ := h.inn_cells
  obtain ⟨M, fs, hb, hco⟩ := h.board
  have far : ∀ {k : Nat} {cs : Array Value} {t : TypeId}, w.heap[k]? = some (.cells cs t (0, 0)) → t ≠ 3 → k ≠ r.ib := fun hcc ht => cells_ne hcc hic ht
  have hl : (s.left c v).inn.length = s.inn.length := by simp [MS.left]
  refine ⟨by rw [hl]; exact (hk.block p (blk_lt h.hdr) (far h.hdr (by decide))).trans h.hdr, ⟨M, fs, hb.keep hk (board_far hb hic (by decide) (by decide) (by decide)), ⟨by rw [hl]; exact hco.len, hco.mem, hco.cache⟩⟩, ?_, hk.own h.row (fun k e => ?_), fun i hi => ?_, h.esN, h.maps, h.oslen, h.low, ?_⟩
  · rw [hl]
    obtain ⟨hl0, ⟨h1, _⟩ | ⟨g, cap, cur, h1, h2, h3, h4, h5, h6, h7⟩⟩ := h.inn
    · cases h1
    · injection h1 with e1 _ e3
      injection e1 with e1
      injection e1 with e1
      subst e1 e3
      refine ⟨by simpa [ints, MS.left] using hl0, .inr ⟨r.ib, r.ic, cur.setIfInBounds c (.int .i64 v), rfl, h2, blk_set h3 c _, h4, h5, by rw [Array.size_setIfInBounds]; exact h6, ?_⟩⟩
      rw [Array.toList_setIfInBounds, List.take_set, h7]
      simp [ints, List.map_set, MS.left]
  · obtain ⟨cc, hcc⟩ := own_type h.row e
    exact far hcc (by decide)
  · refine ⟨(hk.block _ (blk_lt (h.ents i hi).1) (far (h.ents i hi).1 (by decide))).trans (h.ents i hi).1, (h.ents i hi).2.keep hk (fun e => ?_)⟩
    obtain ⟨es, ck, hm⟩ := h.os_map (getD_mem (by rw [h.oslen.1]; exact hi))
    exact map_ne hic hm e.symm
  · have hi := h.inv
    refine ⟨by rw [hl]; exact hi.cpus, hi.size, fun e he => by rw [hl]; exact hi.owed e he, hi.ids, hi.apart, hi.few, hi.next, fun u hu => ?_⟩
    rcases List.mem_or_eq_of_mem_set hu with hu | rfl
    · exact hi.inn u hu
    · exact hv
theorem IsStore.innc (h : IsStore n w p r s) {c : Nat} (hc : c < s.inn.length) : w.cell? ⟨r.ib, c, none⟩ = some (.int .i64 (s.inn.getD c 0)) ∧ w.frozen? ⟨r.ib, c, none⟩ = false := by
  rcases h.inn.2 with ⟨h1, _⟩ | ⟨g, cap, cur, h1, _, h3, h4, _, h6, h7⟩
  · cases h1
  · injection h1 with e1 _ e3
    injection e1 with e1
    injection e1 with e1
    subst e1
    have h8 : (cur.toList.take (s.inn.length * 1))[c]? = (ints s.inn)[c]? := by rw [h7]
    rw [List.getElem?_take_of_lt (by omega)] at h8
    refine ⟨?_, blk_free h3 c⟩
    rw [blk_cell h3, List.getD_eq_getElem?_getD, List.getElem?_eq_getElem hc]
    simp only [ints, List.getElem?_map, List.getElem?_eq_getElem hc] at h8
    simpa using h8
end
set_option maxRecDepth 100000 in
set_option maxHeartbeats 2000000 in
theorem leave_any {n : Nat} {w : World} {p : Nat} {r : SR} {s : MS} (h : IsStore n w p r s) {c : Nat} (hc : c < s.inn.length) (hin : 0 ≤ s.inn.getD c 0) : Calls Try.prog 13 #[.pointer (some ⟨p, 0, none⟩), .int .i64 c] w fun e w' => e = .returned (.int .i64 0) ∧ IsStore n w' p r (s.left c (-1)) ∧ Keep (r.foot p) w w' := by
  have HC := Lib.hid (closed_any h)
  have HP := Lib.hid (cpu_any h c hc)
  have c1 := h.c1
  obtain ⟨q0, q1⟩ := h.innc hc
  have hlow := h.low r.ib (.inr (.inr (.inl rfl)))
  have HT := Lib.hid (And.intro (h.turnInn hc (-1) (by omega)) (Keep.mono (keep_set (Keep.refl (fun i => i = r.ib) w) c (.int .i64 (-1))) (F' := r.foot p) (fun i e => .inr (.inr (.inl e)))))
  obtain ⟨v, hv⟩ : ∃ v, s.inn.getD c 0 = v := ⟨_, rfl⟩
  rw [hv] at q0 hin
  have hb : decide (c < s.inn.length) = true := by simpa using hc
  have hneg : decide (v < 0) = false := by simp; omega
  clear h hv
  go_enter Try.func13, Try.ntmps13
  go_wp2_with fail
  ((with_reducible refine HC.out.mono ?_); rintro e w' ⟨rfl, rfl⟩)
  go_wp2_with fail
  ((with_reducible refine HP.out.mono ?_); rintro e w' ⟨rfl, rfl⟩)
  clear HC HP
  go_wp2_with fail
  go_ret
  exact ⟨rfl, HT.out.1, HT.out.2⟩
end Go.Proofs.Ytnhajhejkecihaa
