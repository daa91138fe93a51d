/- Install: what Safe does to a store, plain and in memory. -/
import Derived.Test.YtnhajhejkecihaaI4
namespace Go.Proofs.Ytnhajhejkecihaa
open Go.RowKit Go.Lib
set_option linter.unusedVariables false
set_option linter.unusedSimpArgs false

theorem getD_eq' {α : Type} (l : List α) (i : Nat) (d : α) (h : i < l.length) : l.getD i d = l[i] := by rw [List.getD_eq_getElem?_getD, List.getElem?_eq_getElem h]; rfl
/-- The first k entries have passed. -/
def MS.passing (s : MS) (c k : Nat) : MS := { s with all := (s.all.take k).map (ME.passed c) ++ s.all.drop k }
theorem passing_zero (s : MS) (c : Nat) : s.passing c 0 = s := by simp [MS.passing]
theorem passing_at (s : MS) (c k : Nat) (h : k < s.all.length) : (s.passing c k).all.getD k ME.dflt = s.all.getD k ME.dflt := by
  unfold MS.passing
  simp only
  rw [List.getD_eq_getElem?_getD, List.getD_eq_getElem?_getD, List.getElem?_append_right (by simp; omega), List.getElem?_drop]
  congr 2
  simp
  omega
theorem passing_length (s : MS) (c k : Nat) : (s.passing c k).all.length = s.all.length := by
  simp [MS.passing]
  omega
theorem passing_put (s : MS) (c k : Nat) (h : k < s.all.length) : (s.passing c k).put k ((s.all.getD k ME.dflt).passed c) = s.passing c (k + 1) := by
  unfold MS.passing MS.put
  simp only
  congr 1
  have hl : ((s.all.take k).map (ME.passed c)).length = k := by simp; omega
  rw [List.set_append_right _ _ (by omega), hl, Nat.sub_self, List.drop_eq_getElem_cons h, List.set_cons_zero, List.take_succ_eq_append_getElem h, List.map_append, getD_eq' _ _ _ h]
  simp
theorem passing_all (s : MS) (c : Nat) : s.passing c s.all.length = { s with all := s.all.map (ME.passed c) } := by simp [MS.passing]
theorem ME.passed_free {c : Nat} {e : ME} (h : e.owed.getD c false = false) : e.passed c = e := by
  have : e.owed.set c false = e.owed := by
    apply List.ext_getElem
    · simp
    · intro i h1 h2
      rw [List.getElem_set]
      split
      · rename_i hci
        subst hci
        rw [getD_eq' _ _ _ h2] at h
        exact h.symm
      · rfl
  unfold ME.passed
  rw [this]
theorem owedS_nat5 (l : List Bool) (c : Nat) : owedS l (c : Int) = l.getD c false := by simp [owedS]
theorem owedS_set (l : List Bool) (c : Nat) : (fun j : Int => !(j == (c : Int)) && owedS l j) = owedS (l.set c false) := by
  funext j
  unfold owedS
  by_cases hj : j = (c : Int)
  · subst hj
    by_cases hc : c < l.length
    · simp [List.getD_eq_getElem?_getD, hc]
    · simp [List.getD_eq_getElem?_getD, hc]
  · by_cases h0 : 0 ≤ j
    · have hne : c ≠ j.toNat := by omega
      simp [hj, h0, List.getD_eq_getElem?_getD, List.getElem?_set_ne hne]
    · simp [h0]
theorem count_set5 : ∀ (l : List Bool) (c : Nat), l.getD c false = true → (l.set c false).count true = l.count true - 1
  | [], c, h => by simp at h
  | b :: l, 0, h => by
    have hb : b = true := by simpa using h
    subst hb
    simp
  | b :: l, c + 1, h => by
    have hl : l.getD c false = true := by simpa using h
    have ih := count_set5 l c hl
    have hpos : 0 < l.count true := by
      rw [List.count_pos_iff]
      have hcl : c < l.length := by
        apply Classical.byContradiction
        intro hn
        rw [List.getD_eq_getElem?_getD, List.getElem?_eq_none (by omega)] at hl
        simp at hl
      rw [getD_eq' _ _ _ hcl] at hl
      exact hl ▸ List.getElem_mem hcl
    rw [List.set_cons_succ, List.count_cons, List.count_cons, ih]
    omega
/-- A processor has flushed a module. -/
theorem Coh.flushed {s : MS} {M : Bytes} {fs : List Cache} (h : Coh s M fs) {i c : Nat} (hi : i < s.all.length) (hc : c < fs.length) :
    Coh s M (fs.set c (cut (s.all.getD i ME.dflt).a (16 * (s.all.getD i ME.dflt).a + (s.all.getD i ME.dflt).bytes.length) (fs.getD c (fun _ => none)))) ∧
    Coh (s.put i ((s.all.getD i ME.dflt).passed c)) M (fs.set c (cut (s.all.getD i ME.dflt).a (16 * (s.all.getD i ME.dflt).a + (s.all.getD i ME.dflt).bytes.length) (fs.getD c (fun _ => none)))) := by
  obtain ⟨e, he⟩ : ∃ e, s.all.getD i ME.dflt = e := ⟨_, rfl⟩
  have hm : e ∈ s.all := he ▸ getD_mem hi
  rw [he]
  have old : ∀ c', c' < (fs.set c (cut e.a (16 * e.a + e.bytes.length) (fs.getD c (fun _ => none)))).length → ∀ x ∈ s.all, x.owed.getD c' false = false → ∀ k : Nat, x.a ≤ k → k < x.stop →
      ((fs.set c (cut e.a (16 * e.a + e.bytes.length) (fs.getD c (fun _ => none)))).getD c' (fun _ => none)) k = none ∨ ((fs.set c (cut e.a (16 * e.a + e.bytes.length) (fs.getD c (fun _ => none)))).getD c' (fun _ => none)) k = some (line M k) := fun c' hc' x hx hox k h1 h2 => by
    rw [List.length_set] at hc'
    by_cases hcc : c = c'
    · subst hcc
      rw [getD_set_self _ _ _ _ hc]
      unfold cut
      split
      · exact .inl rfl
      · exact h.cache c hc x hx hox k h1 h2
    · rw [getD_set_ne' _ _ _ _ _ hcc]
      exact h.cache c' hc' x hx hox k h1 h2
  refine ⟨⟨by rw [List.length_set]; exact h.len, h.mem, old⟩, ⟨by rw [List.length_set]; exact h.len, fun x hx => ?_, fun c' hc' x hx hox k h1 h2 => ?_⟩⟩
  · rcases List.mem_or_eq_of_mem_set hx with hx | rfl
    · exact h.mem x hx
    · exact h.mem e hm
  · rcases List.mem_or_eq_of_mem_set hx with hx | rfl
    · exact old c' hc' x hx hox k h1 h2
    · by_cases hcc : c = c'
      · subst hcc
        rw [getD_set_self _ _ _ _ hc]
        left
        unfold cut
        rw [if_pos]
        change k < e.a + lns e.bytes.length at h2
        unfold lns at h2
        have h1' : e.a ≤ k := h1
        omega
      · have ho2 : e.owed.getD c' false = false := by
          have : (e.owed.set c false).getD c' false = false := hox
          rwa [getD_set_ne' _ _ _ _ _ hcc] at this
        exact old c' hc' e hm ho2 k h1 h2
section
variable {n : Nat} {w w' : World} {p : Nat} {r : SR} {s : MS}
/-- The map of an entry is turned. -/
theorem IsStore.unowe (h : IsStore n w p r s) {i : Nat} (hi : i < s.all.length) (e : ME) (he : e = { s.all.getD i ME.dflt with owed := e.owed }) (hf : FB Try.prog 3 4 w' (r.os.getD i 0) (owedS e.owed) (e.owed.count true))
    (hk : Keep (fun k => k = r.os.getD i 0) w w') (hinv : (s.put i e).Inv) {M : Bytes} {fs : List Cache} (hb : IsBoard w r.bb r.br M fs) (hco : Coh (s.put i e) M fs) : IsStore n w' p r (s.put i e) := by
  have hio : i < r.os.length := by rw [h.oslen.1]; exact hi
  have hom : r.os.getD i 0 ∈ r.os := getD_mem hio
  obtain ⟨es, ck, hoc⟩ := h.os_map hom
  have hl : (s.put i e).all.length = s.all.length := by simp [MS.put]
  have far : ∀ {k : Nat} {cs : Array Value} {t : TypeId}, w.heap[k]? = some (.cells cs t (0, 0)) → k ≠ r.os.getD i 0 := fun hcc => map_ne hcc hoc
  have hmaps := List.nodup_append.1 h.maps
  have hrow := hk.own h.row (fun k e' => by obtain ⟨c, hcc⟩ := own_type h.row e'; exact far hcc)
  refine ⟨by rw [hl]; exact (hk.block p (blk_lt h.hdr) (far h.hdr)).trans h.hdr, ⟨M, fs, hb.keep hk (fun q hq => ?_), hco⟩, hk.own h.inn (fun k e' => ?_), by rw [hl]; exact hrow, fun j hj => ?_, h.esN, h.maps, ⟨by rw [hl]; exact h.oslen.1, by rw [hl]; exact h.oslen.2⟩, h.low, hinv⟩
  · rcases hq with rfl | rfl | rfl | hq
    · exact far hb.hdr
    · obtain ⟨c, hcc⟩ := own_type hb.mem (k := r.br.mb) rfl
      exact far hcc
    · obtain ⟨c, hcc⟩ := own_type hb.caches (k := r.br.cb) rfl
      exact far hcc
    · exact hmaps.2.2 q hq _ hom
  · obtain ⟨c, hcc⟩ := own_type h.inn e'
    exact far hcc
  · rw [hl] at hj
    obtain ⟨hc1, hf1⟩ := h.ents j hj
    have hcell := (hk.block _ (blk_lt hc1) (far hc1)).trans hc1
    by_cases hij : i = j
    · subst hij
      have e1 : (s.put i e).all.getD i ME.dflt = e := getD_set_self _ _ _ _ hi
      rw [e1]
      refine ⟨?_, hf⟩
      rw [hcell, he]
      rfl
    · have e1 : (s.put i e).all.getD j ME.dflt = s.all.getD j ME.dflt := getD_set_ne' _ _ _ _ _ hij
      rw [e1]
      exact ⟨hcell, hf1.keep hk (nodup_ne hmaps.2.1 (by rw [h.oslen.1]; exact hj) hio (fun e => hij e.symm))⟩
end
theorem kept_sub (g : Nat → Bool) (N : Nat) {α : Type} (l : List α) (d : α) (h : l.length = N) : ((kept g N).map (l.getD · d)).Sublist l := by
  have e : l = (List.range N).map (l.getD · d) := by
    apply List.ext_getElem
    · simp [h]
    · intro i h1 h2
      rw [List.getElem_map, List.getElem_range, getD_eq' _ _ _ h1]
  conv => rhs; rw [e]
  exact List.Sublist.map _ (by unfold kept; exact List.filter_sublist)
theorem kept_all (s : MS) : (kept (goneAt s) s.all.length).map (s.all.getD · ME.dflt) = s.all.filter fun e => !e.gone := filter_getD s.all ME.dflt (fun e => !e.gone)
theorem MS.Inv.sub {s : MS} (h : s.Inv) {l : List ME} (hl : l.Sublist s.all) : ({ s with all := l } : MS).Inv :=
  ⟨h.cpus, fun e he => h.size e (hl.subset he), fun e he => h.owed e (hl.subset he), fun e he => h.ids e (hl.subset he), h.apart.sublist hl, Nat.le_trans hl.length_le h.few, h.next, h.inn⟩
theorem Coh.sub {s : MS} {M : Bytes} {fs : List Cache} (h : Coh s M fs) {l : List ME} (hl : l.Sublist s.all) : Coh { s with all := l } M fs :=
  ⟨h.len, fun e he => h.mem e (hl.subset he), fun c hc e he => h.cache c hc e (hl.subset he)⟩
section
variable {n : Nat} {w w1 : World} {p : Nat} {r : SR} {s : MS}
/-- Entries are left away; the row is new, the header is set. -/
theorem IsStore.sieved (h : IsStore n w p r s) {A : Option Addr} {ac : Nat} (ix : List Nat) (hix : ∀ i ∈ ix, i < s.all.length)
    (sub : ∀ {α : Type} (l : List α) (d : α), l.length = s.all.length → (ix.map (l.getD · d)).Sublist l)
    (hrow : w1.ownsRow 0 63 1 (.slice r.A ix.length r.ac) ix.length (ptrs (ix.map (r.es.getD · 0)))) (hk : Keep (fun k => ∃ a, r.A = some a ∧ k = a.block) w w1) :
    IsStore n (w1.setCell ⟨p, 2, none⟩ (.slice r.A ix.length r.ac)) p { r with es := ix.map (r.es.getD · 0), os := ix.map (r.os.getD · 0), xs := ix.map (r.xs.getD · MX.dflt) } { s with all := ix.map (s.all.getD · ME.dflt) } := by
  obtain ⟨M, fs, hb, hc⟩ := h.board
  have rowAt : ∀ a, r.A = some a → ∃ cs, w.heap[a.block]? = some (.cells cs 63 (0, 0)) := fun a ha => own_type h.row (by rw [ha]; rfl)
  have far : ∀ {k : Nat} {cs : Array Value} {t : TypeId}, w.heap[k]? = some (.cells cs t (0, 0)) → t ≠ 63 → ¬ ∃ a, r.A = some a ∧ k = a.block := fun hcc ht ⟨a, ha, e⟩ => by
    obtain ⟨cs, hcs⟩ := rowAt a ha
    exact cells_ne hcc hcs ht e
  have hp := (hk.block p (blk_lt h.hdr) (far h.hdr (by decide))).trans h.hdr
  have ks := keep_set (Keep.refl (fun k => k = p) w1) 2 (.slice r.A ix.length r.ac)
  have farm : ∀ {k : Nat} {es : Array MapEntry} {ck : Nat}, w.heap[k]? = some (.map es ck) → ¬ ∃ a, r.A = some a ∧ k = a.block := fun hcc ⟨a, ha, e⟩ => by
    obtain ⟨cs, hcs⟩ := rowAt a ha
    exact map_ne hcs hcc e.symm
  have kb : ∀ {k : Nat} {o : Obj}, w.heap[k]? = some o → (¬ ∃ a, r.A = some a ∧ k = a.block) → k ≠ p → (w1.setCell ⟨p, 2, none⟩ (.slice r.A ix.length r.ac)).heap[k]? = some o := fun hcc h1 h2 => by
    have h3 := (hk.block _ (blk_lt hcc) h1).trans hcc
    exact (ks.block _ (blk_lt h3) h2).trans h3
  have hl1 : (ix.map (s.all.getD · ME.dflt)).length = ix.length := List.length_map ..
  have hsub := sub s.all ME.dflt rfl
  have hpb : ∀ k, r.br.foot r.bb k → k ≠ p := board_far hb h.hdr (by decide) (by decide) (by decide)
  refine ⟨?_, ⟨M, fs, ?_, hc.sub hsub⟩, ?_, ?_, fun i hi => ?_, (sub r.es 0 h.eslen).nodup h.esN, (((List.Sublist.refl r.br.ms).append (sub r.os 0 h.oslen.1)).nodup h.maps), by simp, fun k hkf => ?_, h.inv.sub hsub⟩
  · have := blk_set hp 2 (.slice r.A ix.length r.ac)
    rw [this]
    simp only [hl1]
    rfl
  · refine IsBoard.keep (IsBoard.keep hb hk (fun k hkf => ?_)) ks hpb
    rcases hkf with rfl | rfl | rfl | hq
    · exact far hb.hdr (by decide)
    · obtain ⟨c, hcc⟩ := own_type hb.mem (k := r.br.mb) rfl
      exact far hcc (by decide)
    · obtain ⟨c, hcc⟩ := own_type hb.caches (k := r.br.cb) rfl
      exact far hcc (by decide)
    · obtain ⟨es, ck, hm⟩ := hb.mem_map hq
      exact farm hm
  · have h1 := hk.own h.inn (fun k e' => by obtain ⟨c, hcc⟩ := own_type h.inn e'; exact far hcc (by decide))
    exact ks.own h1 (fun k e' => by obtain ⟨c, hcc⟩ := own_type h1 e'; exact cells_ne hcc hp (by decide))
  · simp only [hl1]
    exact ks.own hrow (fun k e' => by obtain ⟨c, hcc⟩ := own_type hrow e'; exact cells_ne hcc hp (by decide))
  · have hi' : i < ix.length := by simpa using hi
    have hj : ix.getD i 0 < s.all.length := hix _ (getD_mem hi')
    have gm : ∀ {α : Type} (f : Nat → α) (d : α), (ix.map f).getD i d = f (ix.getD i 0) := fun f d => by
      rw [getD_eq' _ _ _ (by simpa using hi'), getD_eq' _ _ _ hi', List.getElem_map]
    obtain ⟨hc1, hf1⟩ := h.ents _ hj
    simp only [gm]
    refine ⟨kb hc1 (far hc1 (by decide)) (cells_ne hc1 h.hdr (by decide)), ?_⟩
    obtain ⟨es, ck, hm⟩ := fb_map hf1
    exact (hf1.keep hk (farm hm)).keep ks (fun e' => map_ne h.hdr hm e'.symm)
  · refine h.low k ?_
    rcases hkf with hk1 | hk1 | hk1 | hk1 | hk1 | hk1
    · exact .inl hk1
    · exact .inr (.inl hk1)
    · exact .inr (.inr (.inl hk1))
    · exact .inr (.inr (.inr (.inl hk1)))
    · exact .inr (.inr (.inr (.inr (.inl ((sub r.es 0 h.eslen).subset hk1)))))
    · exact .inr (.inr (.inr (.inr (.inr ((sub r.os 0 h.oslen.1).subset hk1)))))
end
end Go.Proofs.Ytnhajhejkecihaa
