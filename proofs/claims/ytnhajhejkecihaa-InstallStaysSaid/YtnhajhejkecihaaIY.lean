/- Install: an entry is turned; Drop. -/
import Derived.Test.YtnhajhejkecihaaIX
namespace Go.Proofs.Ytnhajhejkecihaa
open Go.RowKit Go.Lib
set_option linter.unusedVariables false
set_option linter.unusedSimpArgs false

theorem nodup_set : ∀ (l : List Nat) (i x : Nat), l.Nodup → x ∉ l → (l.set i x).Nodup
  | [], _, _, h, _ => by simp
  | y :: l, 0, x, h, hx => by
    rw [List.set_cons_zero, List.nodup_cons]
    exact ⟨fun h' => hx (List.mem_cons_of_mem _ h'), (List.nodup_cons.1 h).2⟩
  | y :: l, i + 1, x, h, hx => by
    rw [List.set_cons_succ, List.nodup_cons]
    refine ⟨fun h' => ?_, nodup_set l i x (List.nodup_cons.1 h).2 (fun h' => hx (List.mem_cons_of_mem _ h'))⟩
    rcases List.mem_or_eq_of_mem_set h' with h' | h'
    · exact (List.nodup_cons.1 h).1 h'
    · exact hx (by rw [← h']; exact List.mem_cons_self)
def MS.put (s : MS) (i : Nat) (e : ME) : MS := { s with all := s.all.set i e }
/-- What tells modules apart. -/
def ME.key (e : ME) : Nat × Nat × Nat := (e.id, e.a, e.stop)
theorem apart_key (l : List ME) : (l.Pairwise fun e f => e.id ≠ f.id ∧ (e.stop ≤ f.a ∨ f.stop ≤ e.a)) ↔ ((l.map ME.key).Pairwise fun x y => x.1 ≠ y.1 ∧ (x.2.2 ≤ y.2.1 ∨ y.2.2 ≤ x.2.1)) := by
  rw [List.pairwise_map]
  rfl
theorem MS.put_inv {s : MS} (h : s.Inv) {i : Nat} (hi : i < s.all.length) (e : ME) (hid : e.id = (s.all.getD i ME.dflt).id) (ha : e.a = (s.all.getD i ME.dflt).a) (hb : e.bytes.length = (s.all.getD i ME.dflt).bytes.length) (ho : e.owed.length = s.inn.length) : (s.put i e).Inv := by
  have hm : s.all.getD i ME.dflt ∈ s.all := getD_mem hi
  have hst : e.stop = (s.all.getD i ME.dflt).stop := by unfold ME.stop; rw [ha, hb]
  have all : ∀ {P : ME → Prop}, (∀ x ∈ s.all, P x) → P e → ∀ x ∈ (s.put i e).all, P x := fun h1 h2 x hx => by
    rcases List.mem_or_eq_of_mem_set hx with hx | rfl
    · exact h1 x hx
    · exact h2
  refine ⟨h.cpus, all h.size ⟨by have := (h.size _ hm).1; omega, by rw [hst]; exact (h.size _ hm).2⟩, all h.owed ho, all h.ids (by rw [hid]; exact h.ids _ hm), ?_, by simpa [MS.put] using h.few, h.next, h.inn⟩
  rw [apart_key]
  have e1 : (s.put i e).all.map ME.key = s.all.map ME.key := by
    unfold MS.put
    simp only
    rw [List.map_set]
    have : ME.key e = (s.all.map ME.key)[i]'(by simpa using hi) := by
      rw [List.getElem_map]
      unfold ME.key
      have hg : s.all.getD i ME.dflt = s.all[i] := by rw [List.getD_eq_getElem?_getD, List.getElem?_eq_getElem hi]; rfl
      rw [hid, ha, hst, hg]
    rw [this, List.set_getElem_self]
  rw [e1, ← apart_key]
  exact h.apart
section
variable {n : Nat} {w w' : World} {p : Nat} {r : SR} {s : MS}
/-- An entry is turned; it has a new map. -/
theorem IsStore.entry (h : IsStore n w p r s) {i : Nat} (hi : i < s.all.length) (e : ME) (o : Nat) (hcell : w'.heap[r.es.getD i 0]? = some (.cells (ecells e (r.xs.getD i MX.dflt) o).toArray 66 (0, 0))) (hf : FB Try.prog 3 4 w' o (owedS e.owed) (e.owed.count true))
    (hk : Keep (fun k => k = r.es.getD i 0) w w') (ho : w.heap.size ≤ o) (hinv : (s.put i e).Inv) (hco : ∀ M fs, Coh s M fs → Coh (s.put i e) M fs) : IsStore n w' p { r with os := r.os.set i o } (s.put i e) := by
  obtain ⟨M, fs, hb, hc⟩ := h.board
  have hie : i < r.es.length := by rw [h.eslen]; exact hi
  have hem : r.es.getD i 0 ∈ r.es := getD_mem hie
  obtain ⟨ecs, hec⟩ := h.es_cells hem
  have hl : (s.put i e).all.length = s.all.length := by simp [MS.put]
  have far : ∀ {k : Nat} {cs : Array Value} {t : TypeId}, w.heap[k]? = some (.cells cs t (0, 0)) → t ≠ 66 → k ≠ r.es.getD i 0 := fun hcc ht => cells_ne hcc hec ht
  have hlow : n ≤ w.heap.size := Nat.le_trans (h.low p (.inl rfl)) (Nat.le_of_lt (blk_lt h.hdr))
  have hrow := hk.own h.row (fun k e' => by
    obtain ⟨c, hcc⟩ := own_type h.row e'
    exact far hcc (by decide))
  refine ⟨by rw [hl]; exact (hk.block p (blk_lt h.hdr) (far h.hdr (by decide))).trans h.hdr, ⟨M, fs, hb.keep hk (board_far hb hec (by decide) (by decide) (by decide)), hco M fs hc⟩, hk.own h.inn (fun k e' => ?_), by rw [hl]; exact hrow, fun j hj => ?_, h.esN, ?_, ⟨by rw [List.length_set, hl]; exact h.oslen.1, by rw [hl]; exact h.oslen.2⟩, fun k hkf => ?_, hinv⟩
  · obtain ⟨c, hcc⟩ := own_type h.inn e'
    exact far hcc (by decide)
  · rw [hl] at hj
    by_cases hij : i = j
    · subst hij
      have e1 : (s.put i e).all.getD i ME.dflt = e := getD_set_self _ _ _ _ hi
      have e2 : (r.os.set i o).getD i 0 = o := getD_set_self _ _ _ _ (by rw [h.oslen.1]; exact hi)
      rw [e1]
      show w'.heap[r.es.getD i 0]? = some (.cells (ecells e (r.xs.getD i MX.dflt) ((r.os.set i o).getD i 0)).toArray _ _) ∧ FB _ _ _ _ ((r.os.set i o).getD i 0) _ _
      rw [e2]
      exact ⟨hcell, hf⟩
    · have e1 : (s.put i e).all.getD j ME.dflt = s.all.getD j ME.dflt := getD_set_ne' _ _ _ _ _ hij
      have e2 : (r.os.set i o).getD j 0 = r.os.getD j 0 := getD_set_ne' _ _ _ _ _ hij
      rw [e1]
      show w'.heap[r.es.getD j 0]? = some (.cells (ecells _ (r.xs.getD j MX.dflt) ((r.os.set i o).getD j 0)).toArray _ _) ∧ FB _ _ _ _ ((r.os.set i o).getD j 0) _ _
      rw [e2]
      refine ⟨(hk.block _ (blk_lt (h.ents j hj).1) (nodup_ne h.esN (by rw [h.eslen]; exact hj) hie (fun e => hij e.symm))).trans (h.ents j hj).1, (h.ents j hj).2.keep hk (fun e' => ?_)⟩
      obtain ⟨es, ck, hm⟩ := h.os_map (getD_mem (i := j) (x := 0) (by rw [h.oslen.1]; exact hj))
      exact map_ne hec hm e'.symm
  · have hold : ∀ k ∈ r.br.ms ++ r.os, k < w.heap.size := fun k hk => by
      rcases List.mem_append.1 hk with hk | hk
      · exact h.foot_lt k (.inr (.inl (.inr (.inr (.inr hk)))))
      · exact h.foot_lt k (.inr (.inr (.inr (.inr (.inr hk)))))
    have := List.nodup_append.1 h.maps
    show (r.br.ms ++ r.os.set i o).Nodup
    rw [List.nodup_append]
    refine ⟨this.1, nodup_set _ _ _ this.2.1 (fun hm => by have := hold o (List.mem_append.2 (.inr hm)); omega), fun x hx y hy => ?_⟩
    rcases List.mem_or_eq_of_mem_set hy with hy | rfl
    · exact this.2.2 x hx y hy
    · have := hold x (List.mem_append.2 (.inl hx))
      omega
  · rcases hkf with hk1 | hk1 | hk1 | hk1 | hk1 | hk1
    · exact h.low k (.inl hk1)
    · exact h.low k (.inr (.inl hk1))
    · exact h.low k (.inr (.inr (.inl hk1)))
    · exact h.low k (.inr (.inr (.inr (.inl hk1))))
    · exact h.low k (.inr (.inr (.inr (.inr (.inl hk1)))))
    · rcases List.mem_or_eq_of_mem_set hk1 with hk1 | rfl
      · exact h.low k (.inr (.inr (.inr (.inr (.inr hk1)))))
      · omega
end
/-- Who owes a module on every processor may have whatever in the caches. -/
theorem Coh.owing {s : MS} {M : Bytes} {fs : List Cache} (h : Coh s M fs) {i : Nat} (hi : i < s.all.length) (e : ME) (hb : e.bytes = (s.all.getD i ME.dflt).bytes) (ha : e.a = (s.all.getD i ME.dflt).a) (ho : e.owed = s.owing) : Coh (s.put i e) M fs := by
  have hm : s.all.getD i ME.dflt ∈ s.all := getD_mem hi
  refine ⟨h.len, fun x hx => ?_, fun c hc x hx hox => ?_⟩
  · rcases List.mem_or_eq_of_mem_set hx with hx | rfl
    · exact h.mem x hx
    · rw [hb, ha]; exact h.mem _ hm
  · rcases List.mem_or_eq_of_mem_set hx with hx | rfl
    · exact h.cache c hc x hx hox
    · rw [ho] at hox
      have hcl : c < s.inn.length := by rw [← h.len]; exact hc
      simp [MS.owing, List.getD_eq_getElem?_getD, hcl] at hox
set_option maxRecDepth 100000 in
set_option maxHeartbeats 4000000 in
theorem drop_any {n : Nat} {w : World} {p : Nat} {r : SR} {s : MS} (h : IsStore n w p r s) (id : Int) {i : Nat} (hf : s.find id = some i) :
    Calls Try.prog 12 #[.pointer (some ⟨p, 0, none⟩), .int .i64 id] w fun e w' => e = .returned (.int .i64 0) ∧ ∃ r', IsStore n w' p r' (s.dropped i (s.all.getD i ME.dflt)) ∧ Keep (r.foot p) w w' ∧ ∀ k, r'.foot p k → r.foot p k ∨ w.heap.size ≤ k := by
  have HC := Lib.hid (closed_any h)
  have HF := Lib.hid (find_any h id)
  rw [hf] at HF
  obtain ⟨hi, _, _⟩ := found_at hf
  obtain ⟨eb, heb⟩ : ∃ eb, r.es.getD i 0 = eb := ⟨_, rfl⟩
  change Hid (Calls _ _ _ _ fun e w' => e = Ending.returned (Value.pointer (some ⟨r.es.getD i 0, 0, none⟩)) ∧ _) at HF
  have hent := (h.ents i hi).1
  obtain ⟨e, he⟩ : ∃ e, s.all.getD i ME.dflt = e := ⟨_, rfl⟩
  obtain ⟨x, hx⟩ : ∃ x, r.xs.getD i MX.dflt = x := ⟨_, rfl⟩
  obtain ⟨o, hoo⟩ : ∃ o, r.os.getD i 0 = o := ⟨_, rfl⟩
  rw [heb] at HF
  rw [heb, he, hx, hoo] at hent
  have e11 : w.cell? ⟨eb, 11, none⟩ = some (.bool e.dropped) := (blk_cell hent 11).trans rfl
  have f11 := blk_free hent 11
  have ks := keep_set (Keep.refl (fun k => k = eb) w) 11 (.bool true)
  have hb1 := blk_set hent 11 (.bool true)
  have hpe : p ≠ eb := cells_ne h.hdr hent (by decide)
  have c1 := cell_kept ks h.c1 hpe
  have HO := Lib.hid (owe_low (p := p) c1 hb1 (by simp [ecells]) hpe h.inv.cpus.2)
  have H := Lib.hid (And.intro h (And.intro hi (And.intro heb (And.intro he hx))))
  have hsz : (w.setCell ⟨eb, 11, none⟩ (.bool true)).heap.size = w.heap.size := by simp [World.setCell]
  have KS := Lib.hid (And.intro ks hsz)
  clear h hf hi heb he hx hoo hent ks hb1 c1 hpe hsz
  go_enter Try.func12, Try.ntmps12
  go_wp2_with fail
  ((with_reducible refine HC.out.mono ?_); rintro ee w' ⟨rfl, rfl⟩)
  go_wp2_with fail
  ((with_reducible refine HF.out.mono ?_); rintro ee w' ⟨rfl, rfl⟩)
  clear HC HF
  go_wp2_with fail
  ((with_reducible refine HO.out.mono ?_); rintro ee w2 ⟨rfl, o2, ho2, hc2, hf2, hk2⟩)
  have HR := Lib.hid (show ∃ r', IsStore n w2 p r' (s.dropped i (s.all.getD i ME.dflt)) ∧ Keep (r.foot p) w w2 ∧ ∀ k, r'.foot p k → r.foot p k ∨ w.heap.size ≤ k from by
    obtain ⟨h, hi, heb, he, hx⟩ := H.out
    have hk : Keep (fun k => k = eb) w w2 := Keep.trans KS.out.1 hk2
    have hm : s.all.getD i ME.dflt ∈ s.all := getD_mem hi
    have hlowe : n ≤ eb := by rw [← heb]; exact h.low _ (.inr (.inr (.inr (.inr (.inl (getD_mem (by rw [h.eslen]; exact hi)))))))
    refine ⟨_, h.entry hi { e with dropped := true, owed := s.owing } o2 (by rw [heb, hx]; exact hc2) ?_ (by rw [heb]; exact hk) (by rw [← KS.out.2]; exact ho2) (s.put_inv h.inv hi _ (by rw [he]) (by rw [he]) (by rw [he]) (by simp [MS.owing])) (fun M fs hco => hco.owing hi _ (by rw [he]) (by rw [he]) rfl) |> fun hh => (by rw [MS.dropped, he]; exact hh), Keep.mono hk (fun k e => by rw [e, ← heb]; exact .inr (.inr (.inr (.inr (.inl (getD_mem (by rw [h.eslen]; exact hi))))))), fun k hk' => ?_⟩
    · have e1 : (s.owing).count true = s.inn.length := by simp [MS.owing]
      show FB _ _ _ _ _ (owedS s.owing) (s.owing.count true)
      rw [e1]
      exact hf2
    · rcases hk' with h1 | h1 | h1 | h1 | h1 | h1
      · exact .inl (.inl h1)
      · exact .inl (.inr (.inl h1))
      · exact .inl (.inr (.inr (.inl h1)))
      · exact .inl (.inr (.inr (.inr (.inl h1))))
      · exact .inl (.inr (.inr (.inr (.inr (.inl h1)))))
      · rcases List.mem_or_eq_of_mem_set h1 with h1 | rfl
        · exact .inl (.inr (.inr (.inr (.inr (.inr h1)))))
        · exact .inr (by rw [← KS.out.2]; exact ho2))
  clear hc2 hf2 hk2 ho2
  go_wp2_with fail
  go_ret
  exact ⟨rfl, HR.out⟩
end Go.Proofs.Ytnhajhejkecihaa
