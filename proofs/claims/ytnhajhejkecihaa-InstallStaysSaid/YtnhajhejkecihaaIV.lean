/- Install: find, owe. -/
import Derived.Test.YtnhajhejkecihaaIU
namespace Go.Proofs.Ytnhajhejkecihaa
open Go.RowKit Go.Lib
set_option linter.unusedVariables false
set_option linter.unusedSimpArgs false

def hit (id : Int) (e : ME) : Bool := (e.id : Int) == id && !e.dropped
theorem find_none {s : MS} {id : Int} (h : ∀ j, j < s.all.length → hit id (s.all.getD j ME.dflt) = false) : s.find id = none := by
  unfold MS.find
  rw [List.findIdx?_eq_none_iff]
  intro x hx
  obtain ⟨i, hi, rfl⟩ := List.getElem_of_mem hx
  have := h i hi
  rwa [List.getD_eq_getElem?_getD, List.getElem?_eq_getElem hi] at this
theorem find_some {s : MS} {id : Int} {k : Nat} (hk : k < s.all.length) (h : ∀ j, j < k → hit id (s.all.getD j ME.dflt) = false) (hh : hit id (s.all.getD k ME.dflt) = true) : s.find id = some k := by
  unfold MS.find
  rw [List.findIdx?_eq_some_iff_getElem]
  refine ⟨hk, ?_, fun j hj => ?_⟩
  · rwa [List.getD_eq_getElem?_getD, List.getElem?_eq_getElem hk] at hh
  · have := h j hj
    rw [List.getD_eq_getElem?_getD, List.getElem?_eq_getElem (by omega)] at this
    unfold hit at this
    simpa using this
def found (r : SR) : Option Nat → Value
  | none => .pointer none
  | some i => .pointer (some ⟨r.es.getD i 0, 0, none⟩)
set_option maxRecDepth 100000 in
set_option maxHeartbeats 4000000 in
theorem find_any {n : Nat} {w : World} {p : Nat} {r : SR} {s : MS} (h : IsStore n w p r s) (id : Int) : Calls Try.prog 27 #[.pointer (some ⟨p, 0, none⟩), .int .i64 id] w fun e w' => e = .returned (found r (s.find id)) ∧ w = w' := by
  have H := Lib.hid h
  have c2 := h.c2
  have hN := h.inv.few
  clear h
  obtain ⟨N, hNN⟩ : ∃ N, s.all.length = N := ⟨_, rfl⟩
  have HN := Lib.hid hNN
  rw [hNN] at c2 hN
  clear hNN
  go_enter Try.func27, Try.ntmps27
  go_wp2_with fail
  go_loop [12] (fun i => ∃ k : Nat, k ≤ N ∧ i = .int .i64 (k : Int) ∧ Hid (∀ j, j < k → hit id (s.all.getD j ME.dflt) = false)) (fun i => N + 1 - (intOf i).toNat)
  case atStart => exact ⟨0, Nat.zero_le _, rfl, Lib.hid (fun j hj => absurd hj (by omega))⟩
  case round =>
    obtain ⟨k, hk, rfl, HH⟩ := hrel
    by_cases hlt : k < N
    · have hb : decide (k < N) = true := by simpa using hlt
      have hkN : k < s.all.length := by rw [HN.out]; exact hlt
      obtain ⟨g, hg, hp⟩ := H.out.ptr hkN
      obtain ⟨eb, heb⟩ : ∃ eb, r.es.getD k 0 = eb := ⟨_, rfl⟩
      obtain ⟨e, he⟩ : ∃ e, s.all.getD k ME.dflt = e := ⟨_, rfl⟩
      have e0 : w.cell? ⟨eb, 0, none⟩ = some (.int .i64 e.id) := by rw [← heb, ← he]; exact H.out.ecell hkN 0
      have e11 : w.cell? ⟨eb, 11, none⟩ = some (.bool e.dropped) := by rw [← heb, ← he]; exact H.out.ecell hkN 11
      rw [heb] at hp
      rw [hg]
      have HE := Lib.hid (And.intro he (And.intro heb hkN))
      clear heb he hg hkN
      by_cases hid : (e.id : Int) = id
      · have h1 : ((e.id : Int) == id) = true := by simpa using hid
        cases hd : e.dropped with
        | true =>
          rw [hd] at e11
          have HN2 := Lib.hid (show ∀ j, j < k + 1 → hit id (s.all.getD j ME.dflt) = false from fun j hj => by
            by_cases hjk : j < k
            · exact HH.out j hjk
            · obtain rfl : j = k := by omega
              rw [HE.out.1]; unfold hit; rw [hd]; simp)
          clear hd hid
          go_wp2_with fail
          exact ⟨⟨k + 1, by omega, by go_num, HN2⟩, by simp [intOf]; omega⟩
        | false =>
          rw [hd] at e11
          have HN2 := Lib.hid (find_some HE.out.2.2 HH.out (by rw [HE.out.1]; unfold hit; rw [hd, h1]; rfl))
          clear hd hid
          go_wp2_with fail
          go_ret
          exact ⟨by rw [HN2.out]; show _ = Ending.returned (Value.pointer (some ⟨r.es.getD k 0, 0, none⟩)); rw [HE.out.2.1]; rfl, rfl⟩
      · have h1 : ((e.id : Int) == id) = false := by simpa using hid
        have HN2 := Lib.hid (show ∀ j, j < k + 1 → hit id (s.all.getD j ME.dflt) = false from fun j hj => by
          by_cases hjk : j < k
          · exact HH.out j hjk
          · obtain rfl : j = k := by omega
            rw [HE.out.1]; unfold hit; rw [h1]; rfl)
        clear hid
        go_wp2_with fail
        exact ⟨⟨k + 1, by omega, by go_num, HN2⟩, by simp [intOf]; omega⟩
    · have hb : decide (k < N) = false := by simpa using hlt
      obtain rfl : k = N := by omega
      have HN2 := Lib.hid (find_none (fun j hj => HH.out j (by rw [← HN.out]; exact hj)))
      go_wp2_with fail
      go_ret
      exact ⟨by rw [HN2.out]; rfl, rfl⟩

def upTo (k : Nat) : Int → Bool := fun i => decide (0 ≤ i) && decide (i < (k : Int))
theorem upTo_put (k : Nat) : (fun j => j == (k : Int) || upTo k j) = upTo (k + 1) := by
  funext j
  rw [Bool.eq_iff_iff]
  simp [upTo]
  omega
theorem upTo_owed (N : Nat) : upTo N = owedS (List.replicate N true) := by
  funext j
  unfold upTo owedS
  by_cases h0 : 0 ≤ j
  · obtain ⟨q, rfl⟩ := Int.eq_ofNat_of_zero_le h0
    by_cases hq : q < N
    · simp [List.getD_eq_getElem?_getD, hq]
    · simp [List.getD_eq_getElem?_getD, List.getElem?_replicate, hq]
  · simp [h0]
set_option maxRecDepth 100000 in
set_option maxHeartbeats 4000000 in
theorem owe_low {w : World} {p eb ib ic N : Nat} {cs : Array Value} (h1 : w.cell? ⟨p, 1, none⟩ = some (.slice (some ⟨ib, 0, none⟩) N ic)) (he : w.heap[eb]? = some (.cells cs 66 (0, 0))) (hcs : cs.size = 13) (hpe : p ≠ eb) (hN : N ≤ 4) :
    Calls Try.prog 22 #[.pointer (some ⟨p, 0, none⟩), .pointer (some ⟨eb, 0, none⟩)] w fun e w' => e = .returned (.tuple #[]) ∧ ∃ o, w.heap.size ≤ o ∧ w'.heap[eb]? = some (.cells (cs.setIfInBounds 12 (.map (some o))) 66 (0, 0)) ∧ FB Try.prog 3 4 w' o (owedS (List.replicate N true)) N ∧ Keep (fun k => k = eb) w w' := by
  have hmm := @run_makeMap Try.prog
  have hel := blk_lt he
  obtain ⟨u, hu⟩ : ∃ u, cs[12]? = some u := ⟨_, Array.getElem?_eq_getElem (by omega)⟩
  have e12 : w.cell? ⟨eb, 12, none⟩ = some u := (blk_cell he 12).trans hu
  have f12 := blk_free he 12
  have k0 := (Keep.refl (fun _ => False) w).alloc' (.map #[] 0)
  have e12' : (w.alloc (.map #[] 0)).cell? ⟨eb, 12, none⟩ = some u := cell_kept k0 e12 id
  have f12' : (w.alloc (.map #[] 0)).frozen? ⟨eb, 12, none⟩ = false := blk_free ((k0.block eb hel id).trans he) 12
  have ks := keep_set (Keep.refl (fun i => i = eb) w) 12 (.map (some w.heap.size))
  have hb0 := blk_set he 12 (.map (some w.heap.size))
  have hsz : (w.setCell ⟨eb, 12, none⟩ (.map (some w.heap.size))).heap.size = w.heap.size := by simp [World.setCell]
  have hF := FB.made (P := Try.prog) (k := 3) (e := 4) (w.setCell ⟨eb, 12, none⟩ (.map (some w.heap.size)))
  rw [hsz] at hF
  have ka := (Keep.refl (fun _ => False) (w.setCell ⟨eb, 12, none⟩ (.map (some w.heap.size)))).alloc' (.map #[] 0)
  have c1 := cell_kept ka (cell_kept ks h1 hpe) id
  have V0 := Lib.hid (And.intro ((ka.block eb (blk_lt hb0) id).trans hb0) (And.intro hF (Keep.trans ks (Keep.mono ka (F' := fun i => i = eb) (fun _ => False.elim)))))
  clear hb0 hF ks ka k0 hu hsz
  go_enter Try.func22, Try.ntmps22
  go_upto_region 1 with (fail)
  obtain ⟨W0, hW⟩ : ∃ W0, (w.setCell ⟨eb, 12, none⟩ (.map (some w.heap.size))).alloc (.map #[] 0) = W0 := ⟨_, rfl⟩
  rw [hW] at V0 c1
  rw [hW]
  obtain ⟨o, ho⟩ : ∃ o, w.heap.size = o := ⟨_, rfl⟩
  rw [ho] at V0
  have HO := Lib.hid ho
  clear hW ho e12 f12 e12' f12' h1 hmm
  go_wp2_with fail
  go_loopw [14] (fun i wr => ∃ k : Nat, k ≤ N ∧ i = .int .i64 (k : Int) ∧ Hid (wr.heap[eb]? = some (.cells (cs.setIfInBounds 12 (.map (some o))) 66 (0, 0)) ∧ FB Try.prog 3 4 wr o (upTo k) k ∧ Keep (fun i => i = eb) w wr)) (fun i _ => N + 1 - (intOf i).toNat)
  case atStart =>
    refine ⟨0, Nat.zero_le _, rfl, Lib.hid ⟨V0.out.1, ?_, V0.out.2.2⟩⟩
    have e : upTo 0 = fun _ => false := by
      funext i
      rw [Bool.eq_iff_iff]
      simp [upTo]
    rw [e]
    exact V0.out.2.1
  case round =>
    obtain ⟨k, hk, rfl, VV⟩ := hrel
    obtain ⟨wo, rfl⟩ : ∃ wo : World, wo = wr := ⟨_, rfl⟩
    clear V0 c1
    have e12 : wo.cell? ⟨eb, 12, none⟩ = some (.map (some o)) := by
      rw [blk_cell VV.out.1]
      simp [hcs]
    by_cases hlt : k < N
    · have hb : decide (k < N) = true := by simpa using hlt
      obtain ⟨wd, hput, hfd, hkd⟩ := VV.out.2.1.put Try.underlying3 Try.underlying64 Try.underlying4 (by unfold maxLen; omega) (i := (k : Int)) (wf64 (by omega))
      have hu0 : upTo k (k : Int) = false := by simp [upTo]
      rw [upTo_put, hu0] at hfd
      have hoe : o ≠ eb := by have := HO.out; omega
      have VN := Lib.hid (And.intro ((hkd.block eb (blk_lt VV.out.1) (fun e => hoe e.symm)).trans VV.out.1) (And.intro hfd (VV.out.2.2.then hkd (fun i e => .inr (by have := HO.out; omega)))))
      clear hfd hkd hu0
      go_wp2_with fail
      exact ⟨⟨k + 1, by omega, by go_num, VN⟩, by simp [intOf]; omega⟩
    · have hb : decide (k < N) = false := by simpa using hlt
      obtain rfl : k = N := by omega
      go_wp2_with fail
      refine bodyPost_end (results_none rfl _ _ _) rfl ?_
      exact ⟨rfl, o, by have := HO.out; omega, VV.out.1, by rw [← upTo_owed]; exact VV.out.2.1, VV.out.2.2⟩
end Go.Proofs.Ytnhajhejkecihaa
