/- The contract of account.Sums: an iterator over the cells, and the loop over it. -/
import Derived.RangeFuncFrom
import Derived.RangeFuncBox
import Derived.RangeFuncLeaves
import Derived.RangeFuncCalls
import Derived.OwnWalkIn
import Derived.TacticsInMore
import Derived.LoopNIn
import Derived.LoopIn
import Derived.Test.YtbbeoeoengogpaaA1
namespace Go.Proofs.Ytbbeoeoengogpaa
open Go.RowKit
set_option linter.unusedVariables false
attribute [local go_sem] Oper.semAt_some

/-- A cell with its id, as it lies in memory: what the sums look at is the tenant and the number of items. -/
structure Ent where
  (id kind class_ fn tenant : Int)
  (NA : Option Addr)
  (NL NC : Nat)
  (IA : Option Addr)
  (IL IC : Nat)
def Ent.cells (e : Ent) : List Value := [.int .i64 e.id, .int .i64 e.kind, .int .i64 e.class_, .int .i64 e.fn, .int .i64 e.tenant, (.slice e.NA e.NL e.NC), .slice e.IA e.IL e.IC]
def Ent.dflt : Ent := ⟨0, 0, 0, 0, 0, none, 0, 0, none, 0, 0⟩
def Ent.size (e : Ent) : Int := 16 + 8 * e.IL
def Ent.pair (e : Ent) : Int × Int := (e.tenant, e.size)

def EntsAt (w : World) (A : Option Addr) (n : Nat) (es : List Ent) : Prop :=
  es.length = n ∧ n ≤ 1000000000000 ∧ (∀ e ∈ es, e.IL ≤ 1000000000000000) ∧
  (0 < n → ∃ b off, A = some ⟨b, off, none⟩ ∧ b < w.heap.size ∧ ∀ j, j < n → ∀ i, i < 7 → w.cell? ⟨b, off + j * 7 + i, none⟩ = some ((es.getD j Ent.dflt).cells.getD i undef))
theorem EntsAt.below {w w' : World} {A : Option Addr} {n : Nat} {es : List Ent} (h : EntsAt w A n es) (hb : Below w.heap.size w w') : EntsAt w' A n es :=
  ⟨h.1, h.2.1, h.2.2.1, fun h0 => let ⟨b, off, e, hl, hc⟩ := h.2.2.2 h0; ⟨b, off, e, Nat.lt_of_lt_of_le hl hb.size, fun j hj i hi => (hb.cell (p := ⟨b, off + j * 7 + i, none⟩) hl).trans (hc j hj i hi)⟩⟩

/-- What has come when k rounds are over. -/
def come (es : List Ent) (k : Nat) : List (Int × Int) := (es.take k).map Ent.pair
theorem come_succ (es : List Ent) (k : Nat) (h : k < es.length) : come es (k + 1) = come es k ++ [(es.getD k Ent.dflt).pair] := by
  unfold come
  rw [List.take_succ_eq_append_getElem h, List.map_append, List.getD_eq_getElem?_getD, List.getElem?_eq_getElem h]
  rfl
theorem come_length (es : List Ent) (k : Nat) (h : k ≤ es.length) : (come es k).length = k := by simp [come]; omega

set_option maxRecDepth 100000 in
set_option maxHeartbeats 1000000 in
theorem sizes1_in (F : Fence) (n : Nat) (h7 : F.fn 47) (hro : F.round = none) (hn : 1 ≤ n) (l Bs n₀ : Nat) (A : Option Addr) (len cap : Nat) (es : List Ent) (J Jx : List (Int × Int) → World → Prop)
    (hY : ∀ pre x W, J pre W → pre.length < len → YieldAt F (n - 1) Try.prog l #[.int .i64 x.1, .int .i64 x.2] W fun e W' =>
      (e = .returned (.bool true) ∧ J (pre ++ [x]) W' ∧ Below n₀ W W') ∨ (e = .returned (.bool false) ∧ Jx (pre ++ [x]) W'))
    (hJa : ∀ pre W o, n₀ ≤ W.heap.size → J pre W → J pre (W.alloc o))
    (W : World) (hBs : W.cell? ⟨Bs, 0, none⟩ = some (.slice A len cap)) (hE : EntsAt W A len es) (hn₀ : ∀ b off, A = some ⟨b, off, none⟩ → b < n₀) (hnW : n₀ ≤ W.heap.size) (h0 : J [] W) :
    CallsIn F n Try.prog 47 #[.func (.yield l) #[] #[], .pointer (some ⟨Bs, 0, none⟩)] W fun e W' => (∃ v, e = .returned v) ∧
      ((∃ ys, ys = es.map Ent.pair ∧ J ys W') ∨ (∃ pre, (∃ k, k ≤ len ∧ pre = come es k) ∧ Jx pre W')) := by
  obtain ⟨el, eb, ei, ec⟩ := hE
  have EL := Lib.hid el; clear el
  have EI := Lib.hid ei; clear ei
  have EC := Lib.hid ec; clear ec
  have HN := Lib.hid hn₀; clear hn₀
  have HA := Lib.hid hJa; clear hJa
  refine callsIn_of_wp Try.func47 rfl h7 ?_ hro
  simp only [Try.ntmps47, List.size_toArray, List.length_cons, List.length_nil, Nat.reduceAdd, Nat.reduceSub, Array.replicate_succ, Array.replicate_zero, List.push_toArray, List.append_toArray, List.nil_append, List.cons_append]
  gi_wp2
  gi_loopw [7] (fun i wr => ∃ k : Nat, k ≤ len ∧ i = .int .i64 k ∧ J (come es k) wr ∧ Below n₀ W wr)
    (fun i _ => len - (intOf i).toNat)
  case atStart => exact ⟨0, Nat.zero_le _, rfl, h0, Below.refl _ _⟩
  case round =>
    obtain ⟨k, hk, rfl, hJs, hnx⟩ := hrel
    have HB := Lib.hid hnx; clear hnx
    have HJ := Lib.hid hJs; clear hJs
    by_cases hlt : k < len
    · obtain ⟨b, off, rfl, _, hc⟩ := EC.out (by omega)
      have hb : b < n₀ := HN.out b off rfl
      have hcc : ∀ i, i < 7 → wr.cell? ⟨b, off + k * 7 + i, none⟩ = some ((es.getD k Ent.dflt).cells.getD i undef) := fun i hi => (HB.out.cell (p := ⟨b, off + k * 7 + i, none⟩) hb).trans (hc k hlt i hi)
      obtain ⟨e, he⟩ : ∃ e, es.getD k Ent.dflt = e := ⟨_, rfl⟩
      have hIL : e.IL ≤ 1000000000000000 := by
        have hk' : k < es.length := by rw [EL.out]; exact hlt
        rw [List.getD_eq_getElem?_getD, List.getElem?_eq_getElem hk'] at he
        subst he
        exact EI.out _ (List.getElem_mem _)
      have HE := Lib.hid he
      rw [he] at hcc
      clear he
      have c0 := hcc 0 (by omega)
      have c1 := hcc 1 (by omega)
      have c2 := hcc 2 (by omega)
      have c3 := hcc 3 (by omega)
      have c4 := hcc 4 (by omega)
      have c5 := hcc 5 (by omega)
      have c6 := hcc 6 (by omega)
      simp only [Nat.add_zero, Ent.cells, List.getD_cons_zero, List.getD_cons_succ] at c0 c1 c2 c3 c4 c5 c6
      clear hcc hc
      obtain ⟨fn, tmps, assign, body, hy, hR⟩ := hY _ e.pair _ (HA.out _ wr (.cells #[.int .i64 e.id, .int .i64 e.kind, .int .i64 e.class_, .int .i64 e.fn, .int .i64 e.tenant, (.slice e.NA e.NL e.NC), .slice e.IA e.IL e.IC] 56) (Nat.le_trans hnW HB.out.size) HJ.out) (by rw [come_length _ _ (by rw [EL.out]; omega)]; exact hlt)
      simp only [Ent.pair, Ent.size] at hy
      have HR := Lib.hid hR; clear hR
      gi_wp2
      refine HR.out.mono ?_
      rintro e1 W3 (⟨rfl, hJ3, hk3⟩ | ⟨rfl, hJx3⟩)
      · have HJ3 := Lib.hid hJ3; clear hJ3
        have HK3 := Lib.hid hk3; clear hk3
        gi_wp2
        go_roundw
        case rel => exact ⟨k + 1, by omega, by simp, by rw [come_succ _ _ (by rw [EL.out]; omega), HE.out]; exact HJ3.out, HB.out.trans (((Below.refl _ _).alloc (Nat.le_trans hnW HB.out.size) _).trans HK3.out)⟩
        case measure => simp [intOf]; omega
      · have HJ3 := Lib.hid hJx3; clear hJx3
        gi_wp2
        refine bodyPost_ret (results_none rfl _ _ _) rfl ?_
        exact ⟨⟨_, rfl⟩, .inr ⟨_, ⟨k + 1, by omega, by rw [come_succ _ _ (by rw [EL.out]; omega), HE.out]⟩, HJ3.out⟩⟩
    · obtain rfl : k = len := by omega
      gi_wp2
      go_end0
      exact ⟨⟨_, rfl⟩, .inl ⟨_, by simp [come, ← EL.out], HJ.out⟩⟩
end Go.Proofs.Ytbbeoeoengogpaa
