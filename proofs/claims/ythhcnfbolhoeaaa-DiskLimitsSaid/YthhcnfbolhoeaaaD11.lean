/- Contracts of the laws' helpers: repeated. -/
import Derived.Test.YthhcnfbolhoeaaaD10
import Derived.Deep.OwnRows
namespace Go.Proofs.Ythhcnfbolhoeaaa
open Go.RowKit
set_option linter.unusedVariables false

def repL (c : UInt8) (n k : Nat) : Bytes := List.replicate k c ++ List.replicate (n - k) 0
theorem repL_len (c : UInt8) (n k : Nat) (h : k ≤ n) : (repL c n k).length = n := by simp [repL]; omega
theorem repL_set (c : UInt8) (n k : Nat) (h : k < n) : (b8 (repL c n k)).set k (.int .u8 (c.toNat : Int)) = b8 (repL c n (k + 1)) := by
  obtain ⟨m, rfl⟩ : ∃ m, n = k + (m + 1) := ⟨n - k - 1, by omega⟩
  unfold repL
  rw [show k + (m + 1) - k = m + 1 by omega, show k + (m + 1) - (k + 1) = m by omega, List.replicate_succ' (n := k)]
  simp only [b8, List.map_append, List.map_replicate, List.replicate_succ (n := m)]
  rw [List.set_append_right _ _ (by simp)]
  simp

set_option maxHeartbeats 1000000 in
theorem repeated_any (w : World) (c : UInt8) (n : Nat) (hn : n ≤ 1000000) :
    Calls Try.prog 26 #[.int .u8 (c.toNat : Int), .int .i64 (n : Int)] w fun e w' => e = .returned (.string (sb (List.replicate n c))) ∧ Since w.heap.size w w' := by
  have hmk := run_make_row' 56 5 (.int .u8 0) 1 Try.bytes.ht Try.bytes.info rfl .i64 .i64 n (by omega) (by omega) w
  go_enter Try.func26, Try.ntmps26
  go_wp2_with fail
  have hown := own_new w 5 (madeCells #[.int .u8 0] n) n w.heap.size (by simp [madeCells]) (by omega) (Nat.le_refl _)
  have e0 : (madeCells #[.int .u8 0] n).toList = b8 (repL c n 0) := by
    rw [toList_madeCells_one]
    simp [repL, b8]
  rw [e0] at hown
  have hk0 : Keep (fun _ => False) w (w.alloc (.cells (madeCells #[.int .u8 0] n) 5)) := (Keep.refl _ w).alloc' _
  have HOWN := Lib.hid hown
  have HK0 := Lib.hid hk0
  clear hown hk0 hmk e0
  go_loopw [6] (fun i wr => ∃ k : Nat, k ≤ n ∧ i = .int .i64 k ∧ Hid (wr.ownsRow w.heap.size 5 1 (.slice (some ⟨w.heap.size, 0, none⟩) n n) n (b8 (repL c n k))) ∧ Hid (Keep (fun _ => False) w wr)) (fun i _ => n - (intOf i).toNat)
  case atStart => exact ⟨0, Nat.zero_le _, rfl, HOWN, HK0⟩
  case round =>
    obtain ⟨k, hk, rfl, HO, HK⟩ := hrel
    obtain ⟨wo, rfl⟩ : ∃ wo : World, wo = wr := ⟨_, rfl⟩
    by_cases hlt : k < n
    · have hl : (b8 (repL c n k)).length = n := by rw [b8_length, repL_len c n k hk]
      have hc := HO.out.cellAt k (by omega)
      rw [List.getElem?_eq_getElem (by omega)] at hc
      obtain ⟨u0, hu0⟩ : ∃ u0, (b8 (repL c n k))[k]'(by omega) = u0 := ⟨_, rfl⟩
      rw [hu0] at hc
      clear hu0
      have hf := HO.out.frozenAt k
      have hst := (HO.out.stored k (.int .u8 (c.toNat : Int))).1
      rw [repL_set c n k hlt] at hst
      have HST := Lib.hid hst
      have hkk : Keep (fun _ => False) w (wo.setCell ⟨w.heap.size, k, none⟩ (.int .u8 (c.toNat : Int))) := HK.out.then (F' := fun i => i = w.heap.size) (keep_set (Keep.refl _ _) _ _) (fun i hi => .inr (by omega))
      have HKK := Lib.hid hkk
      clear hst hl hkk
      go_wp2_with fail
      go_roundw
      case rel => exact ⟨k + 1, by omega, by go_num, HST, HKK⟩
      case measure => simp [intOf]; omega
    · obtain rfl : k = n := by omega
      have hfull : repL c k k = List.replicate k c := by simp [repL]
      have ho := HO.out
      rw [hfull] at ho
      have hback := run_back wo w.heap.size 0 k (List.replicate k c) (by
        intro j hj
        have hj' : j < k := by simpa using hj
        rw [Nat.zero_add, ho.cellAt j (by omega)]
        simp [b8, hj'])
      rw [List.length_replicate] at hback
      clear ho hfull
      go_wp2_with fail
      go_ret
      exact ⟨rfl, Since.of HK.out⟩

/-! ### sanity -/
def sd1 : DS := DS.new.write 2 [97, 98]
def sd2 : DS := sd1.sync
def sd3 : DS := sd2.write 3 [120, 121, 122]
def sc : DS := sd3.crash []
def se1 : DS := DS.new.write 60 (List.replicate 70 120)
def sf : DS := se1.crash [0, 1]
def sg1 : DS := DS.new.fail 1
def sg2 : DS := sg1.sync

set_option maxRecDepth 100000 in
theorem sanity_facts : DS.new.doWrite 2 [97, 98] = (0, sd1) ∧ sd1.now.length = 4 ∧ readL sd1.now 0 9 = [0, 0, 97, 98] ∧ sd1.doSync = (0, sd2) ∧ sd2.doWrite 3 [120, 121, 122] = (0, sd3) ∧
    DS.new.doWrite 60 (List.replicate 70 120) = (0, se1) ∧ sg1.doSync = (0, sg2) ∧ sg2.doWrite 0 [97] = (70, sg2) ∧ sg2.doWrite (-1) [97] = (1, sg2) ∧ sg2.calls = 1 ∧
    readL sc.now 0 9 = [0, 0, 97, 98] ∧ sf.now.length = 128 ∧ readL sf.now 60 9 = [0, 0, 0, 0, 120, 120, 120, 120, 120] := by
  refine ⟨rfl, rfl, rfl, rfl, rfl, rfl, rfl, rfl, rfl, rfl, ?_, ?_, ?_⟩
  · decide
  · decide
  · decide
theorem few_now : DS.new.few 100000000 ∧ sd1.few 100000000 ∧ sd2.few 100000000 ∧ sg1.few 100000000 ∧ sg2.few 100000000 := by
  refine ⟨?_, ?_, ?_, ?_, ?_⟩ <;> (unfold DS.few; decide)
theorem few_parts : sd3.parts.length ≤ 1000000000 ∧ se1.parts.length ≤ 1000000000 := by decide
end Go.Proofs.Ythhcnfbolhoeaaa
