/- The reference model of a disk: Crash. -/
import Derived.Test.YthhcnfbolhoeaaaR4
namespace Go.Proofs.Ythhcnfbolhoeaaa
open Go.RowKit
set_option linter.unusedVariables false

theorem crashL_none : ∀ (ps : List (Nat × Bytes)) (k : Nat) (c : Bytes), crashL [] k c ps = c
  | [], _, _ => rfl
  | p :: ps, k, c => by
    show crashL [] (k + 1) (if lives [] k then putL c p.1 p.2 else c) ps = c
    have : lives [] k = false := by simp [lives]
    rw [this]
    exact crashL_none ps (k + 1) c
theorem crash_len (ns : List Int) (d : DS) (h : d.Ok) (k : Nat) (hk : k ≤ d.parts.length) : (crashL ns 0 d.synced (d.parts.take k)).length ≤ 16777216 := by
  induction k with
  | zero => exact h.syn
  | succ k ih =>
    rw [crash_next ns d k (by omega)]
    have := h.part _ (getD_mem (x := ((0, []) : Nat × Bytes)) (by omega : k < d.parts.length))
    split
    · rw [putL_length]
      have := ih (by omega)
      omega
    · exact ih (by omega)

set_option maxHeartbeats 4000000 in
set_option maxRecDepth 100000 in
theorem rcrash {w : World} {r : RRep} {d : DS} (h : IsRef w r d) (S : Option Addr) (m sc : Nat) (ns : List Int) (hS : IntsAt w S m ns) (hns : ∀ x ∈ ns, -9223372036854775808 ≤ x ∧ x ≤ 9223372036854775807) (hn : d.parts.length ≤ 1000000000) :
    Calls Try.prog 24 #[.pointer (some ⟨r.p, 0, none⟩), .slice S m sc] w fun e w' => ∃ p, e = .returned (.pointer (some ⟨p, 0, none⟩)) ∧ w.heap.size ≤ p ∧ IsRef w' ⟨p, .slice none 0 0, 0⟩ (d.crash ns) ∧ Keep (fun _ => False) w w' := by
  obtain ⟨A, c, e2, _, h1, _, _, _, _, _, _, _, _, _, _⟩ := h.cells
  have H := Lib.hid h
  have HS := Lib.hid hS
  have HNS := Lib.hid hns
  have E2 := Lib.hid e2
  have hml := hS.bound
  clear h hS hns e2
  go_enter Try.func24, Try.ntmps24
  go_wp2_with fail
  clear h1
  go_loopw [5, 6] (fun u i wr => ∃ (k : Nat) (v : ByteArray), k ≤ d.parts.length ∧ i = .int .i64 (k : Int) ∧ u = .string v ∧ Hid (bs v = crashL ns 0 d.synced (d.parts.take k)) ∧ Hid (Keep (fun _ => False) w wr)) (fun _ i _ => d.parts.length - (intOf i).toNat)
  case atStart => exact ⟨0, sb d.synced, Nat.zero_le _, rfl, rfl, Lib.hid rfl, Lib.hid (Keep.refl _ _)⟩
  case round =>
    obtain ⟨k, v, hk, rfl, rfl, HV, HK⟩ := hrel
    obtain ⟨wo, rfl⟩ : ∃ wo : World, wo = wr := ⟨_, rfl⟩
    have hd := H.out.keep HK.out (fun _ _ => id)
    obtain ⟨A2, c2, e3, _, _, h2, _, _, _, _, _, _, _, _, _⟩ := hd.cells
    have hvl : v.size ≤ 16777216 := by
      rw [← bs_length, HV.out]
      exact crash_len ns d H.out.ok k hk
    by_cases hm : 0 < m
    · by_cases hlt : k < d.parts.length
      · obtain ⟨g, cap, hpv, _, _⟩ := hd.prt.form (by omega)
        rw [hpv] at e3
        injection e3 with e4 _ e5
        subst e4
        subst e5
        have hprt := hd.prt
        rw [hpv] at hprt
        obtain ⟨p0, p1⟩ := prs_at d.parts k hlt
        have hx0 : wo.cell? ⟨g, k * 2, none⟩ = _ := (hprt.cellAt (k * 2) (by omega)).trans p0
        have hx1 : wo.cell? ⟨g, k * 2 + 1, none⟩ = _ := (hprt.cellAt (k * 2 + 1) (by omega)).trans p1
        obtain ⟨⟨po, pt⟩, hpk⟩ : ∃ q, d.parts.getD k (0, []) = q := ⟨_, rfl⟩
        rw [hpk] at hx0 hx1
        simp only at hx0 hx1
        obtain ⟨sb0, so, rfl, hsx⟩ := IntsAt.at_ (HS.out.keep HK.out (fun _ _ => id)) (k % m) (Nat.mod_lt _ hm)
        obtain ⟨x, hx⟩ : ∃ x, ns.getD (k % m) 0 = x := ⟨_, rfl⟩
        have hxb : -9223372036854775808 ≤ x ∧ x ≤ 9223372036854775807 := by
          rw [← hx]
          exact HNS.out _ (getD_mem (by rw [HS.out.length]; exact Nat.mod_lt _ hm))
        rw [hx] at hsx
        have hidx := fun w => run_index_int w sb0 so m sc (k % m) (Nat.mod_lt _ hm)
        rw [show ((k % m : Nat) : Int) = (k : Int) % (m : Int) by simp] at hidx
        have hliv : lives ns k = (x.tmod 2 != 0) := by
          unfold lives
          rw [HS.out.length, hx]
          simp [hm]
        have hpart := H.out.ok.part _ (getD_mem (x := ((0, []) : Nat × Bytes)) hlt)
        rw [hpk] at hpart
        have hnx := crash_next ns d k hlt
        rw [hpk] at hnx
        have HLIV := Lib.hid hliv
        have HNX := Lib.hid hnx
        have HPART := Lib.hid hpart
        clear hx hliv hnx hpart hprt hpv hd p0 p1 hpk
        have hmb : decide (0 < m) = true := by simpa using hm
        have hltb : decide (k < d.parts.length) = true := by simpa using hlt
        by_cases hx2 : x.tmod 2 = 0
        · have hv2 : bs v = crashL ns 0 d.synced (d.parts.take (k + 1)) := by
            rw [HNX.out, HLIV.out, hx2]
            exact HV.out
          have HV2 := Lib.hid hv2
          clear hv2
          go_wp2_with fail
          exact ⟨⟨k + 1, v, by omega, by go_num, rfl, HV2, HK⟩, by simp [intOf]; omega⟩
        · have hv2 : crashL ns 0 d.synced (d.parts.take (k + 1)) = putL (bs v) po pt := by
            rw [HNX.out, HLIV.out, HV.out]
            have : (x.tmod 2 != 0) = true := by simpa using hx2
            rw [this]
            rfl
          have HV2 := Lib.hid hv2
          have hput := put_ref wo.drew v (sb pt) po hvl (by rw [sb_size]; exact HPART.out.1)
          have HPUT := Lib.hid hput
          clear hv2 hput
          go_wp2_with fail
          go_still_tail 17, (by kernel_rfl)
          change wpList _ _ _ _ _ wo.drew
          have g2 : wo.drew.cell? ⟨r.p, 2, none⟩ = some (.slice (some ⟨g, 0, none⟩) d.parts.length cap) := h2
          have g0 : wo.drew.cell? ⟨g, k * 2, none⟩ = _ := hx0
          have g1 : wo.drew.cell? ⟨g, k * 2 + 1, none⟩ = _ := hx1
          have KD := Lib.hid (HK.out.trans (keep_draw _ wo))
          obtain ⟨wd, hwd⟩ : ∃ wd, wo.drew = wd := ⟨_, rfl⟩
          rw [hwd] at g0 g1 g2 HPUT KD ⊢
          clear hwd h2 hx0 hx1
          go_wp2_with fail
          refine HPUT.out.mono ?_
          rintro e w2 ⟨rfl, hk2⟩
          have K2 := Lib.hid (KD.out.trans hk2)
          clear hk2 g0 g1 g2
          rw [bs_sb]
          go_wp2_with fail
          exact ⟨⟨k + 1, _, by omega, by go_num, rfl, Lib.hid (by rw [bs_sb]; exact HV2.out.symm), K2⟩, by simp [intOf]; omega⟩
      · obtain rfl : k = d.parts.length := by omega
        have hres : bs v = crashL ns 0 d.synced d.parts := by rw [HV.out, List.take_length]
        have HRES := Lib.hid hres
        have hltb : decide (d.parts.length < d.parts.length) = false := by simp
        clear hres hd
        clear hk
        go_wp2_with fail
        go_ret
        refine ⟨_, rfl, HK.out.size, ?_, HK.out.alloc' _⟩
        have hres := HRES.out
        refine ⟨?_, World.ownsRow_nil _ _ _ _, (fun h => by cases h), ⟨by show (-1 : Int) ≤ 0 + 0; decide, by show (0 : Int) ≤ _; decide⟩, ?_⟩
        · show (wo.alloc _).heap[wo.heap.size]? = _
          rw [heap_alloc_new]
          show some (Obj.cells #[.string v, .string v, .slice none 0 0, .int .i64 0, .int .i64 0, .bool false] 66 (0, 0)) = some (RRep.obj ⟨wo.heap.size, .slice none 0 0, 0⟩ (d.crash ns))
          unfold RRep.obj DS.crash
          rw [← hres, sb_bs]
          rfl
        · exact ⟨by show (0 : Int) ≤ 0; decide, by show (crashL ns 0 d.synced d.parts).length ≤ _; rw [← hres, bs_length]; exact hvl, by show (crashL ns 0 d.synced d.parts).length ≤ _; rw [← hres, bs_length]; exact hvl, fun p hp => by simp [DS.crash, DS.new] at hp, (fun h => by cases h)⟩
    · have hns0 : ns = [] := List.eq_nil_of_length_eq_zero (by rw [HS.out.length]; omega)
      have hres : bs v = crashL ns 0 d.synced d.parts := by rw [HV.out, hns0, crashL_none, crashL_none]
      have HRES := Lib.hid hres
      have hmb : decide (0 < m) = false := by simpa using hm
      clear hres hd hns0
      by_cases hlt : k < d.parts.length
      · have hltb : decide (k < d.parts.length) = true := by simpa using hlt
        clear hk
        go_wp2_with fail
        go_ret
        refine ⟨_, rfl, HK.out.size, ?_, HK.out.alloc' _⟩
        have hres := HRES.out
        refine ⟨?_, World.ownsRow_nil _ _ _ _, (fun h => by cases h), ⟨by show (-1 : Int) ≤ 0 + 0; decide, by show (0 : Int) ≤ _; decide⟩, ?_⟩
        · show (wo.alloc _).heap[wo.heap.size]? = _
          rw [heap_alloc_new]
          show some (Obj.cells #[.string v, .string v, .slice none 0 0, .int .i64 0, .int .i64 0, .bool false] 66 (0, 0)) = some (RRep.obj ⟨wo.heap.size, .slice none 0 0, 0⟩ (d.crash ns))
          unfold RRep.obj DS.crash
          rw [← hres, sb_bs]
          rfl
        · exact ⟨by show (0 : Int) ≤ 0; decide, by show (crashL ns 0 d.synced d.parts).length ≤ _; rw [← hres, bs_length]; exact hvl, by show (crashL ns 0 d.synced d.parts).length ≤ _; rw [← hres, bs_length]; exact hvl, fun p hp => by simp [DS.crash, DS.new] at hp, (fun h => by cases h)⟩
      · have hltb : decide (k < d.parts.length) = false := by simpa using hlt
        clear hk
        go_wp2_with fail
        go_ret
        refine ⟨_, rfl, HK.out.size, ?_, HK.out.alloc' _⟩
        have hres := HRES.out
        refine ⟨?_, World.ownsRow_nil _ _ _ _, (fun h => by cases h), ⟨by show (-1 : Int) ≤ 0 + 0; decide, by show (0 : Int) ≤ _; decide⟩, ?_⟩
        · show (wo.alloc _).heap[wo.heap.size]? = _
          rw [heap_alloc_new]
          show some (Obj.cells #[.string v, .string v, .slice none 0 0, .int .i64 0, .int .i64 0, .bool false] 66 (0, 0)) = some (RRep.obj ⟨wo.heap.size, .slice none 0 0, 0⟩ (d.crash ns))
          unfold RRep.obj DS.crash
          rw [← hres, sb_bs]
          rfl
        · exact ⟨by show (0 : Int) ≤ 0; decide, by show (crashL ns 0 d.synced d.parts).length ≤ _; rw [← hres, bs_length]; exact hvl, by show (crashL ns 0 d.synced d.parts).length ≤ _; rw [← hres, bs_length]; exact hvl, fun p hp => by simp [DS.crash, DS.new] at hp, (fun h => by cases h)⟩
end Go.Proofs.Ythhcnfbolhoeaaa
