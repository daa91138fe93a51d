/- Open. -/
import Derived.RangeFuncNested
import Derived.Shelf.Abstract
import Derived.Deep.OwnRows
import Derived.Stop.RegionWithIn
import Derived.Test.YtbmmcdnmbdoglaaJ2
import Derived.Test.YtbmmcdnmbdoglaaJC
namespace Go.Proofs.Ytbmmcdnmbdoglaa
open Go.RowKit
set_option linter.unusedVariables false
attribute [local go_sem] Oper.semAt_some

theorem Try.strs : OneTy Try.prog 22 9 (.string ⟨#[]⟩) 16 := ⟨Try.underlying22, by kernel_rfl, rfl⟩
theorem mk_func (fn : Fn) (first cap : Array Value) (w : World) : (Instr.makeFunc fn first cap).run Try.prog w = .ok (.func fn first cap) w := rfl

theorem signed_in (u : Nat) (h : u < 18446744073709551616 := by exact natL_lt _ 8) : -9223372036854775808 ≤ signed u ∧ signed u ≤ 9223372036854775807 := by
  unfold signed
  split <;> omega
theorem doSync_on {d : DS} (ho : d.off = false) : d.doSync = (0, d.sync) := by
  unfold DS.doSync
  rw [ho]
  rfl
/-- The world behind the head of Open: its three results have been laid. -/
def opened (w : World) : World := ((w.alloc (.cells #[.pointer none] 27)).alloc (.cells #[.slice none 0 0] 22)).alloc (.cells #[.int .i64 0] 28)
theorem opened_keep (w : World) : Keep (fun _ => False) w (opened w) := (((Keep.refl _ w).alloc' _).alloc' _).alloc' _
theorem opened_size (w : World) : (opened w).heap.size = w.heap.size + 1 + 1 + 1 := by simp [opened]
theorem opened_blk (w : World) : (opened w).heap[w.heap.size]? = some (.cells #[.pointer none] 27 (0, 0)) ∧ (opened w).heap[w.heap.size + 1]? = some (.cells #[.slice none 0 0] 22 (0, 0)) ∧ (opened w).heap[w.heap.size + 1 + 1]? = some (.cells #[.int .i64 0] 28 (0, 0)) := by
  refine ⟨?_, ?_, ?_⟩
  · unfold opened
    rw [Below.heap_alloc _ _ _ (by simp; omega), Below.heap_alloc _ _ _ (by simp)]
    exact heap_alloc_new _ _
  · unfold opened
    rw [Below.heap_alloc _ _ _ (by simp)]
    have := heap_alloc_new (w.alloc (.cells #[.pointer none] 27)) (.cells #[.slice none 0 0] 22)
    rwa [World.size_alloc] at this
  · have := heap_alloc_new ((w.alloc (.cells #[.pointer none] 27)).alloc (.cells #[.slice none 0 0] 22)) (.cells #[.int .i64 0] 28)
    rw [World.size_alloc, World.size_alloc] at this
    exact this
/-- The three results in a later world. -/
def Res3 (n : Nat) (w : World) : Prop := w.heap[n]? = some (.cells #[.pointer none] 27 (0, 0)) ∧ w.heap[n + 1]? = some (.cells #[.slice none 0 0] 22 (0, 0)) ∧ w.heap[n + 1 + 1]? = some (.cells #[.int .i64 0] 28 (0, 0))
theorem Res3.keep {n : Nat} {w w' : World} {F : Nat → Prop} (h : Res3 n w) (hk : Keep F w w') (h0 : ¬ F n) (h1 : ¬ F (n + 1)) (h2 : ¬ F (n + 1 + 1)) : Res3 n w' :=
  ⟨(hk.block _ (blk_lt h.1) h0).trans h.1, (hk.block _ (blk_lt h.2.1) h1).trans h.2.1, (hk.block _ (blk_lt h.2.2) h2).trans h.2.2⟩
theorem Res3.cells {n : Nat} {w : World} (h : Res3 n w) : w.cell? ⟨n, 0, none⟩ = some (.pointer none) ∧ w.cell? ⟨n + 1, 0, none⟩ = some (.slice none 0 0) ∧ w.cell? ⟨n + 1 + 1, 0, none⟩ = some (.int .i64 0) ∧
    w.frozen? ⟨n, 0, none⟩ = false ∧ w.frozen? ⟨n + 1, 0, none⟩ = false ∧ w.frozen? ⟨n + 1 + 1, 0, none⟩ = false := by
  refine ⟨?_, ?_, ?_, blk_free h.1 0, blk_free h.2.1 0, blk_free h.2.2 0⟩
  · rw [blk_cell h.1]; rfl
  · rw [blk_cell h.2.1]; rfl
  · rw [blk_cell h.2.2]; rfl

set_option maxRecDepth 100000 in
set_option maxHeartbeats 1000000 in
theorem open_off {w : World} {r : Rep} {d : DS} (h : IsDisk w r d) (ho : d.off = true) :
    Calls Try.prog 12 #[.pointer (some ⟨r.p, 0, none⟩)] w fun e w' => e = .returned (.tuple #[.pointer none, .slice none 0 0, .int .i64 70]) ∧ Keep (fun _ => False) w w' := by
  have HS := Lib.hid (sync_off (h.keep (opened_keep w) (fun _ _ => id)) ho)
  clear h ho
  go_enter Try.func12, Try.ntmps12
  go_wp2_with fail
  change Calls Try.prog _ _ (opened w) _
  ((with_reducible refine HS.out.mono ?_); rintro e w' ⟨rfl, hw'⟩)
  obtain ⟨c0, c1, c2, f0, f1, f2⟩ := Res3.cells (show Res3 w.heap.size w' from hw' ▸ opened_blk w)
  have HW := Lib.hid hw'
  clear hw'
  go_wp2_with fail
  refine bodyPost_ret (v := .tuple #[.pointer none, .slice none 0 0, .int .i64 70]) (by simp [results, Try.results12, go_sem, c0, c1, c2]) rfl ⟨rfl, ?_⟩
  have hk : Keep (fun _ => False) w w' := HW.out ▸ opened_keep w
  exact ((hk.setCell (.inr (Nat.le_refl _)) _).setCell (.inr (Nat.le_succ _)) _).setCell (.inr (Nat.le_trans (Nat.le_succ _) (Nat.le_succ _))) _

/-- Sync behind the head of Open. -/
theorem open_sync {w : World} {r : Rep} {d : DS} (h : IsDisk w r d) (ho : d.off = false) (hf : d.few 100000000) :
    Calls Try.prog 23 #[.pointer (some ⟨r.p, 0, none⟩)] (opened w) fun e w' => e = .returned (.int .i64 0) ∧ ∃ r', r'.p = r.p ∧ Step w r w' r' d.sync ∧ Res3 w.heap.size w' ∧ ∀ k, r'.foot k → r.foot k ∨ w.heap.size + 3 ≤ k := by
  have hk := opened_keep w
  have hd := h.keep hk (fun _ _ => id)
  have hs := sync_step hd hf
  rw [doSync_on ho] at hs
  refine hs.mono ?_
  rintro e w' ⟨he, r', hst⟩
  refine ⟨he, r', hst.p, Step.after (Keep.mono hk (fun _ => False.elim)) hst, Res3.keep (opened_blk w) hst.keep ?_ ?_ ?_, fun k hk' => ?_⟩
  · intro hk'; have := h.foot_lt _ hk'; omega
  · intro hk'; have := h.foot_lt _ hk'; omega
  · intro hk'; have := h.foot_lt _ hk'; omega
  · have := hst.foot k hk'
    rw [opened_size] at this
    exact this

set_option maxRecDepth 100000 in
set_option maxHeartbeats 2000000 in
theorem open_bad {w : World} {r : Rep} {d : DS} (h : IsDisk w r d) (ho : d.off = false) (hf : d.few 100000000)
    (hb : signed (natL (readL d.now 0 8) 8) < 0 ∨ 16777216 < signed (natL (readL d.now 0 8) 8) ∨ (0 < signed (natL (readL d.now 0 8) 8) ∧ (d.now.length : Int) < 64 + signed (natL (readL d.now 0 8) 8))) :
    Calls Try.prog 12 #[.pointer (some ⟨r.p, 0, none⟩)] w fun e w' => e = .returned (.tuple #[.pointer none, .slice none 0 0, .int .i64 11]) ∧ ∃ r', Step w r w' r' d.sync := by
  have HS := Lib.hid (open_sync h ho hf)
  have hnl := h.ok.now
  have hsg := signed_in (natL (readL d.now 0 8) 8)
  have hfl := h.foot_lt
  have HFL := Lib.hid hfl
  obtain ⟨L, hL⟩ : ∃ L, d.now.length = L := ⟨_, rfl⟩
  have HL := Lib.hid hL
  obtain ⟨v, hv⟩ : ∃ v, signed (natL (readL d.now 0 8) 8) = v := ⟨_, rfl⟩
  have HV := Lib.hid hv
  rw [hv, hL] at hb
  rw [hv] at hsg
  rw [hL] at hnl
  clear h ho hv hL hfl hf
  have hcase : (decide (v < 0) = true) ∨ (decide (v < 0) = false ∧ decide (16777216 < v) = true) ∨ (0 < v ∧ decide (v < 0) = false ∧ decide (16777216 < v) = false ∧ decide (0 < v) = true ∧ decide ((L : Int) < 64 + v) = true ∧ v ≤ 16777216) := by
    by_cases h0 : v < 0
    · exact .inl (by simpa using h0)
    · by_cases h1 : 16777216 < v
      · exact .inr (.inl ⟨by simpa using h0, by simpa using h1⟩)
      · have h2 : 0 < v ∧ (L : Int) < 64 + v := by omega
        exact .inr (.inr ⟨h2.1, by simpa using h0, by simpa using h1, by simpa using h2.1, by simpa using h2.2, by omega⟩)
  clear hb
  have key : ∀ (w5 w6 : World) (r' : Rep) (m : Nat), Step w r w5 r' d.sync → (∀ k, r'.foot k → r.foot k ∨ w.heap.size + 3 ≤ k) → w6 = w5.drewN m → ∃ r', Step w r (((w6.setCell ⟨w.heap.size, 0, none⟩ (.pointer none)).setCell ⟨w.heap.size + 1, 0, none⟩ (.slice none 0 0)).setCell ⟨w.heap.size + 1 + 1, 0, none⟩ (.int .i64 11)) r' d.sync := by
    intro w5 w6 r' m hst hft hm
    have hk : Keep (fun k => w.heap.size ≤ k ∧ k < w.heap.size + 3) w5 (((w6.setCell ⟨w.heap.size, 0, none⟩ (.pointer none)).setCell ⟨w.heap.size + 1, 0, none⟩ (.slice none 0 0)).setCell ⟨w.heap.size + 1 + 1, 0, none⟩ (.int .i64 11)) := by
      rw [hm]
      refine (((keep_drewN _ w5 m).setCell (.inl ⟨?_, ?_⟩) _).setCell (.inl ⟨?_, ?_⟩) _).setCell (.inl ⟨?_, ?_⟩) _ <;> (simp only; omega)
    refine ⟨r', hst.disk.keep hk (fun k h1 h2 => ?_), hst.p, hst.keep.then hk (fun k h2 => .inr h2.1), hst.foot⟩
    rcases hft k h1 with h3 | h3
    · have := HFL.out k h3; omega
    · omega
  have KEY := Lib.hid key
  clear key
  rcases hcase with b1 | ⟨b1, b2⟩ | ⟨hv0, b1, b2, b3, b4, hv1⟩
  all_goals (
    go_enter Try.func12, Try.ntmps12
    go_wp2_with fail
    change Calls Try.prog _ _ (opened w) _
    ((with_reducible refine HS.out.mono ?_); rintro e w5 ⟨rfl, r', hp, hst, hres, hft⟩)
    have HFT := Lib.hid hft
    have HST := Lib.hid hst
    have HP := Lib.hid hp
    have HRES := Lib.hid hres
    clear hst hp hres hft
    go_wp2_with fail
    rw [← HP.out]
    refine (read_disk HST.out.disk 0 8 (by decide) (by decide)).mono ?_
    rintro e w6 ⟨rfl, m, hm⟩
    have HM := Lib.hid hm
    clear hm
    go_wp2_with fail
    refine (value_any w6 (sb (readL d.now 0 8)) 8 (by omega) (by rw [sb_size]; have := readL_len d.now 0 8; simp at this; omega)).mono ?_
    rintro e wx ⟨rfl, rfl⟩
    rw [bs_sb, HV.out]
    obtain ⟨c0, c1, c2, f0, f1, f2⟩ := Res3.cells (show Res3 w.heap.size w6 from HM.out ▸ HRES.out)
    go_wp2_with fail
    try (
      refine (size_disk (show IsDisk w6 r' d.sync from HM.out ▸ HST.out.disk.drewN m)).mono ?_
      rintro e wx ⟨rfl, rfl⟩
      rw [show (d.sync.now.length : Nat) = L from HL.out]
      go_wp2_with fail)
    refine bodyPost_ret (v := .tuple #[.pointer none, .slice none 0 0, .int .i64 11]) (by simp [results, Try.results12, go_sem, c0, c1, c2]) rfl ⟨rfl, ?_⟩
    exact KEY.out w5 _ r' m HST.out HFT.out HM.out)
end Go.Proofs.Ytbmmcdnmbdoglaa
