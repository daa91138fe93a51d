/- Install: what Add does to a store, plain and in memory. -/
import Derived.Test.YtnhajhejkecihaaI6
namespace Go.Proofs.Ytnhajhejkecihaa
open Go.RowKit Go.Lib
set_option linter.unusedVariables false
set_option linter.unusedSimpArgs false

/-- Where the next module would begin. -/
def MS.place (s : MS) (L : Nat) : Option Nat := seek (takenB s.all) L 256 0 0
theorem place_free {s : MS} {L a : Nat} (hL : 0 < L) (h : s.place L = some a) : a + lns L ≤ 256 ∧ ∀ e ∈ s.all, 0 < e.bytes.length → e.stop ≤ a ∨ a + lns L ≤ e.a := by
  have h1 := seek_spec (takenB s.all) L hL 256 0 0 a (by omega) (fun i _ h => by omega) (by omega) h
  refine ⟨by omega, fun e he h0 => ?_⟩
  apply Classical.byContradiction
  intro hn
  have hs : e.stop = e.a + lns e.bytes.length := rfl
  have hp : 0 < lns e.bytes.length := by unfold lns; omega
  have hp2 : 0 < lns L := by unfold lns; omega
  have key : ∀ i, a ≤ i → i < a + lns L → ¬ (e.a ≤ i ∧ i < e.stop) := fun i h2 h3 h4 => by
    have := h1.2 i h2 h3
    unfold takenB at this
    rw [List.any_eq_false] at this
    have := this e he
    simp [ME.on] at this
    omega
  by_cases hc : e.a ≤ a
  · exact key a (by omega) (by omega) (by omega)
  · exact key e.a (by omega) (by omega) (by omega)
theorem added_inv {s : MS} (h : s.Inv) {b : Bytes} {a : Nat} (hb : 0 < b.length) (hp : s.place b.length = some a) (hf : s.all.length < 16) (hn : s.next < 1000000) : (s.added b a).Inv := by
  obtain ⟨h1, h2⟩ := place_free hb hp
  have all : ∀ {P : ME → Prop}, (∀ x ∈ s.all, P x) → P ⟨s.next, a, b, false, s.owing⟩ → ∀ x ∈ (s.added b a).all, P x := fun g1 g2 x hx => by
    rcases List.mem_append.1 hx with hx | hx
    · exact g1 x hx
    · rw [List.mem_singleton.1 hx]; exact g2
  refine ⟨h.cpus, all h.size ⟨hb, h1⟩, all h.owed (by simp [MS.owing]; rfl), all (fun x hx => Nat.lt_succ_of_lt (h.ids x hx)) (Nat.lt_succ_self _), ?_, by simp [MS.added]; omega, by simp [MS.added]; omega, fun v hv => ?_⟩
  · show List.Pairwise _ (s.all ++ [_])
    rw [List.pairwise_append]
    refine ⟨h.apart, by simp, fun x hx y hy => ?_⟩
    rw [List.mem_singleton.1 hy]
    have := h.ids x hx
    refine ⟨by show x.id ≠ s.next; omega, ?_⟩
    exact h2 x hx (h.size x hx).1
  · have := h.inn v hv
    exact ⟨this.1, by show v < ((s.next + 1 : Nat) : Int); omega⟩
/-- The memory behind a Write. -/
def wrote (M : Bytes) (addr : Nat) (b : Bytes) : Bytes := M.take addr ++ (b ++ M.drop (addr + b.length))
theorem wrote_new {M b : Bytes} {addr : Nat} (h : addr ≤ M.length) : ((wrote M addr b).drop addr).take b.length = b := by
  unfold wrote
  rw [List.drop_left' (by rw [List.length_take]; omega), List.take_left' rfl]
theorem wrote_old {M b : Bytes} {addr : Nat} (h : addr + b.length ≤ M.length) {x n : Nat} (hx : x + n ≤ addr ∨ addr + b.length ≤ x) : ((wrote M addr b).drop x).take n = (M.drop x).take n := by
  have hl : (M.take addr).length = addr := by rw [List.length_take]; omega
  unfold wrote
  rcases hx with hx | hx
  · rw [List.drop_append_of_le_length (by omega), List.take_append_of_le_length (by rw [List.length_drop]; omega), List.drop_take, List.take_take]
    congr 1
    omega
  · rw [List.drop_append, hl, List.drop_eq_nil_of_le (by omega), List.nil_append, List.drop_append, List.drop_eq_nil_of_le (by omega), List.nil_append, List.drop_drop]
    congr 2
    omega
theorem Coh.wrote {s : MS} {M : Bytes} {fs : List Cache} (h : Coh s M fs) (hi : s.Inv) (hM : M.length = 4096) {b : Bytes} {a : Nat} (hb : 0 < b.length) (hp : s.place b.length = some a) : Coh s (wrote M (16 * a) b) fs ∧ Coh (s.added b a) (wrote M (16 * a) b) fs := by
  obtain ⟨h1, h2⟩ := place_free hb hp
  have hle : 16 * a + b.length ≤ M.length := by unfold lns at h1; omega
  have old : ∀ e ∈ s.all, 16 * e.stop ≤ 16 * a ∨ 16 * a + b.length ≤ 16 * e.a := fun e he => by
    rcases h2 e he (hi.size e he).1 with h3 | h3
    · left; omega
    · right; unfold lns at h3; omega
  have hmem : ∀ e ∈ s.all, ((Go.Proofs.Ytnhajhejkecihaa.wrote M (16 * a) b).drop (16 * e.a)).take e.bytes.length = e.bytes := fun e he => by
    rw [wrote_old hle (by
      have hs : e.stop = e.a + lns e.bytes.length := rfl
      unfold lns at hs
      have := old e he
      omega)]
    exact h.mem e he
  have hc : ∀ c, c < fs.length → ∀ e ∈ s.all, e.owed.getD c false = false → ∀ k : Nat, e.a ≤ k → k < e.stop → (fs.getD c (fun _ => none)) k = none ∨ (fs.getD c (fun _ => none)) k = some (line (Go.Proofs.Ytnhajhejkecihaa.wrote M (16 * a) b) k) := fun c hc e he ho k hk1 hk2 => by
    have e1 : line (Go.Proofs.Ytnhajhejkecihaa.wrote M (16 * a) b) k = line M k := by
      unfold line
      exact wrote_old hle (by have := old e he; omega)
    rw [e1]
    exact h.cache c hc e he ho k hk1 hk2
  refine ⟨⟨h.len, hmem, hc⟩, ⟨h.len, fun e he => ?_, fun c hcl e he ho k hk1 hk2 => ?_⟩⟩
  · rcases List.mem_append.1 he with he | he
    · exact hmem e he
    · rw [List.mem_singleton.1 he]
      exact wrote_new (M := M) (b := b) (addr := 16 * a) (by omega)
  · rcases List.mem_append.1 he with he | he
    · exact hc c hcl e he ho k hk1 hk2
    · rw [List.mem_singleton.1 he] at ho
      have hcl2 : c < s.inn.length := by rw [← h.len]; exact hcl
      simp [MS.owing, List.getD_eq_getElem?_getD, hcl2] at ho
section
variable {n : Nat} {w w2 : World} {p : Nat} {r : SR} {s : MS}
/-- A new entry is in the row, the header is set. -/
theorem IsStore.grown (h : IsStore n w p r s) {b : Bytes} {a : Nat} {M : Bytes} {fs : List Cache} (hb : IsBoard w r.bb r.br M fs) (hco : Coh (s.added b a) M fs) {eb o : Nat} {x : MX}
    (he : w.heap[eb]? = some (.cells (ecells ⟨s.next, a, b, false, s.owing⟩ x o).toArray 66 (0, 0))) (hf : FB Try.prog 3 4 w o (owedS s.owing) (s.owing.count true)) (hinv : (s.added b a).Inv)
    (heb : n ≤ eb ∧ eb ∉ r.es) (ho : n ≤ o ∧ o ∉ r.br.ms ++ r.os) {g c : Nat}
    (hrow : w2.ownsRow n 63 1 (.slice (some ⟨g, 0, none⟩) (s.all.length + 1) c) (s.all.length + 1) (ptrs (r.es ++ [eb]))) (hk : Keep (fun k => ∃ a, r.A = some a ∧ k = a.block) w w2) :
    IsStore n ((w2.setCell ⟨p, 2, none⟩ (.slice (some ⟨g, 0, none⟩) (s.all.length + 1) c)).setCell ⟨p, 3, none⟩ (.int .i64 ((s.next : Int) + 1))) p { r with A := some ⟨g, 0, none⟩, ac := c, es := r.es ++ [eb], os := r.os ++ [o], xs := r.xs ++ [x] } (s.added b a) := by
  have rowAt : ∀ a, r.A = some a → ∃ cs, w.heap[a.block]? = some (.cells cs 63 (0, 0)) := fun a ha => own_type h.row (by rw [ha]; rfl)
  have far : ∀ {k : Nat} {cs : Array Value} {t : TypeId}, w.heap[k]? = some (.cells cs t (0, 0)) → t ≠ 63 → ¬ ∃ a, r.A = some a ∧ k = a.block := fun hcc ht ⟨a, ha, e⟩ => by
    obtain ⟨cs, hcs⟩ := rowAt a ha
    exact cells_ne hcc hcs ht e
  have farm : ∀ {k : Nat} {es : Array MapEntry} {ck : Nat}, w.heap[k]? = some (.map es ck) → ¬ ∃ a, r.A = some a ∧ k = a.block := fun hcc ⟨a, ha, e⟩ => by
    obtain ⟨cs, hcs⟩ := rowAt a ha
    exact map_ne hcs hcc e.symm
  have hp := (hk.block p (blk_lt h.hdr) (far h.hdr (by decide))).trans h.hdr
  have hp2 := blk_set hp 2 (.slice (some ⟨g, 0, none⟩) (s.all.length + 1) c)
  have ks : Keep (fun k => k = p) w2 ((w2.setCell ⟨p, 2, none⟩ (.slice (some ⟨g, 0, none⟩) (s.all.length + 1) c)).setCell ⟨p, 3, none⟩ (.int .i64 ((s.next : Int) + 1))) := keep_set (keep_set (Keep.refl (fun k => k = p) w2) 2 _) 3 _
  have hp3 := blk_set hp2 3 (.int .i64 ((s.next : Int) + 1))
  obtain ⟨w3, hw3⟩ : ∃ w3, (w2.setCell ⟨p, 2, none⟩ (.slice (some ⟨g, 0, none⟩) (s.all.length + 1) c)).setCell ⟨p, 3, none⟩ (.int .i64 ((s.next : Int) + 1)) = w3 := ⟨_, rfl⟩
  rw [hw3] at ks hp3 ⊢
  have kb : ∀ {k : Nat} {o : Obj}, w.heap[k]? = some o → (¬ ∃ a, r.A = some a ∧ k = a.block) → k ≠ p → w3.heap[k]? = some o := fun hcc h1 h2 => by
    have h3 := (hk.block _ (blk_lt hcc) h1).trans hcc
    exact (ks.block _ (blk_lt h3) h2).trans h3
  have hpb : ∀ k, r.br.foot r.bb k → k ≠ p := board_far hb h.hdr (by decide) (by decide) (by decide)
  have hl1 : (s.added b a).all.length = s.all.length + 1 := by simp [MS.added]
  have hinn : (s.added b a).inn = s.inn := rfl
  have hel := h.eslen
  refine ⟨?_, ⟨M, fs, ?_, hco⟩, ?_, ?_, fun i hi => ?_, ?_, ?_, by simp [MS.added, h.oslen], fun k hkf => ?_, hinv⟩
  · rw [hp3, hl1]
    simp [MS.added]
  · refine IsBoard.keep (IsBoard.keep hb hk (fun k hkf => ?_)) ks hpb
    rcases hkf with rfl | rfl | rfl | hq
    · exact far hb.hdr (by decide)
    · obtain ⟨c, hcc⟩ := own_type hb.mem (k := r.br.mb) rfl
      exact far hcc (by decide)
    · obtain ⟨c, hcc⟩ := own_type hb.caches (k := r.br.cb) rfl
      exact far hcc (by decide)
    · obtain ⟨es, ck, hm⟩ := hb.mem_map hq
      exact farm hm
  · have h1 := hk.own h.inn (fun k e' => by obtain ⟨c, hcc⟩ := own_type h.inn e'; exact far hcc (by decide))
    exact ks.own h1 (fun k e' => by obtain ⟨c, hcc⟩ := own_type h1 e'; exact cells_ne hcc hp (by decide))
  · rw [hl1]
    exact own_zero (ks.own hrow (fun k e' => by obtain ⟨c, hcc⟩ := own_type hrow e'; exact cells_ne hcc hp (by decide)))
  · rw [hl1] at hi
    have put : ∀ {k : Nat} {e : ME} {y : MX} {q : Nat}, w.heap[k]? = some (.cells (ecells e y q).toArray 66 (0, 0)) → FB Try.prog 3 4 w q (owedS e.owed) (e.owed.count true) →
        w3.heap[k]? = some (.cells (ecells e y q).toArray 66 (0, 0)) ∧ FB Try.prog 3 4 w3 q (owedS e.owed) (e.owed.count true) := fun hc1 hf1 => by
      refine ⟨kb hc1 (far hc1 (by decide)) (cells_ne hc1 h.hdr (by decide)), ?_⟩
      obtain ⟨es, ck, hm⟩ := fb_map hf1
      exact (hf1.keep hk (farm hm)).keep ks (fun e' => map_ne h.hdr hm e'.symm)
    by_cases hie : i = s.all.length
    · have lst : ∀ {α : Type} (l : List α) (y d : α), l.length = s.all.length → (l ++ [y]).getD i d = y := fun l y d hl => by
        rw [hie, List.getD_eq_getElem?_getD, List.getElem?_append_right (by omega), hl]
        simp
      have e1 : (s.added b a).all.getD i ME.dflt = ⟨s.next, a, b, false, s.owing⟩ := lst _ _ _ rfl
      rw [e1]
      simp only [lst r.es eb 0 hel, lst r.os o 0 h.oslen.1, lst r.xs x MX.dflt h.oslen.2]
      exact put he hf
    · have hi2 : i < s.all.length := by omega
      have fst : ∀ {α : Type} (l : List α) (y d : α), l.length = s.all.length → (l ++ [y]).getD i d = l.getD i d := fun l y d hl => by
        rw [List.getD_eq_getElem?_getD, List.getD_eq_getElem?_getD, List.getElem?_append_left (by omega)]
      have e1 : (s.added b a).all.getD i ME.dflt = s.all.getD i ME.dflt := fst _ _ _ rfl
      rw [e1]
      simp only [fst r.es eb 0 hel, fst r.os o 0 h.oslen.1, fst r.xs x MX.dflt h.oslen.2]
      exact put (h.ents i hi2).1 (h.ents i hi2).2
  · show (r.es ++ [eb]).Nodup
    rw [List.nodup_append]
    exact ⟨h.esN, by simp, fun x hx y hy => by rw [List.mem_singleton.1 hy]; exact fun e => heb.2 (e ▸ hx)⟩
  · show (r.br.ms ++ (r.os ++ [o])).Nodup
    rw [← List.append_assoc, List.nodup_append]
    exact ⟨h.maps, by simp, fun x hx y hy => by rw [List.mem_singleton.1 hy]; exact fun e => ho.2 (e ▸ hx)⟩
  · rcases hkf with hk1 | hk1 | hk1 | ⟨a, ha, hk1⟩ | hk1 | hk1
    · exact h.low k (.inl hk1)
    · exact h.low k (.inr (.inl hk1))
    · exact h.low k (.inr (.inr (.inl hk1)))
    · cases ha
      rw [hk1]
      exact own_low hrow rfl
    · rcases List.mem_append.1 hk1 with hk1 | hk1
      · exact h.low k (.inr (.inr (.inr (.inr (.inl hk1)))))
      · rw [List.mem_singleton.1 hk1]; exact heb.1
    · rcases List.mem_append.1 hk1 with hk1 | hk1
      · exact h.low k (.inr (.inr (.inr (.inr (.inr hk1)))))
      · rw [List.mem_singleton.1 hk1]; exact ho.1
end
end Go.Proofs.Ytnhajhejkecihaa
