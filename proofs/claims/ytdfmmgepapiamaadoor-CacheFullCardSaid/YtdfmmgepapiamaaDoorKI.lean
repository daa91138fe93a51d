/- strconv.Itoa and strings.Join, out of the shelf's contracts: the numeral's bytes; the table that Itoa reads, carried from world to world. -/
import Derived.Test.YtdfmmgepapiamaaDoorSHC
import Derived.Test.YtdfmmgepapiamaaDoorKB
import Derived.Lib.ItoaLen
namespace Go.Proofs.YtdfmmgepapiamaaDoor
open Go.RowKit
set_option linter.unusedVariables false

/-- The table of powers of ten lies where it was laid. -/
def TB (w : World) : Prop := Lib.TabIs Tryd.prog w "internal/strconv.uint64pow10" .u64 Lib.pow10Tab
theorem TB.glob : Tryd.prog.globalNamed "internal/strconv.uint64pow10" = some 0 := by kernel_rfl
theorem TB.blk {w : World} (h : TB w) : ∃ cs t fr, w.heap[0]? = some (.cells cs t fr) := by
  unfold TB Lib.TabIs World.var? at h
  rw [TB.glob] at h
  simp only [Option.bind_some] at h
  split at h
  · exact ⟨_, _, _, ‹_›⟩
  · cases h
theorem TB.pos {w : World} (h : TB w) : 0 < w.heap.size := by
  obtain ⟨_, _, _, hb⟩ := h.blk
  exact blk_lt hb
theorem TB.keep {F : Nat → Prop} {w w' : World} (h : TB w) (hk : Keep F w w') (hF : ¬ F 0) : TB w' := by
  have e : w'.heap[0]? = w.heap[0]? := hk.block 0 h.pos hF
  unfold TB Lib.TabIs World.var? at h ⊢
  rw [TB.glob] at h ⊢
  simp only [Option.bind_some] at h ⊢
  rw [e]
  exact h
theorem TB.since {n : Nat} {w w' : World} (h : TB w) (hk : Since n w w') (hn : 0 < n) : TB w' := h.keep hk (by omega)

theorem keep_grow (w : World) (k : Nat) (os : Array Obj) : Keep (fun _ => False) w (Sort.grow (w.drewN k) os) :=
  (keep_drewN (fun _ => False) w k).trans ⟨rfl, rfl, rfl, by rw [Sort.size_grow]; omega, fun i hi _ => Sort.heap_grow_old _ _ hi⟩
theorem itoa_any (n : Int) (hn : -9223372036854775808 ≤ n ∧ n ≤ 9223372036854775807) {w : World} (h : TB w) :
    Calls Tryd.prog 27 #[.int .i64 n] w fun e w' => e = .returned (.string (sb (Lib.itoa n))) ∧ Keep (fun _ => False) w w' := by
  refine (Tryd.strconv_Itoa n hn.1 hn.2 w h).mono ?_
  rintro e w' ⟨he, k, os, rfl⟩
  exact ⟨he, keep_grow w k os⟩
def joinB (l : List Bytes) (sep : Bytes) : Bytes := Lib.join l sep
theorem join_any {w : World} {A : Option Addr} {n c : Nat} {l : List Bytes} (h : CellsAt w A n (strs l)) (hc : n ≤ c) (sep : Bytes) (hN : n ≤ 1000000) (hlen : (joinB l sep).length ≤ 140737488355328) :
    Calls Tryd.prog 28 #[.slice A n c, .string (sb sep)] w fun e w' => e = .returned (.string (sb (joinB l sep))) ∧ Keep (fun _ => False) w w' := by
  have hl : l.length = n := by have := h.1; simpa [strs] using this
  by_cases h0 : n = 0
  · subst h0
    obtain rfl : l = [] := List.eq_nil_of_length_eq_zero hl
    refine (Tryd.strings_Join_none A c (sb sep) w).mono ?_
    rintro e w' ⟨he, rfl⟩
    exact ⟨he, Keep.refl _ _⟩
  · obtain ⟨b, off, rfl, hb, hcell⟩ := h.2.2 (by omega)
    have hx := Tryd.strings_Join b off c (l.map sb) (sb sep) w (fun j x hj => by
      have hj' : j < n := by have := (List.getElem?_eq_some_iff.1 hj).1; rw [List.length_map] at this; omega
      rw [hcell j hj']
      simp only [strs, List.getElem?_map] at hj ⊢
      rw [List.getElem?_eq_getElem (by omega)] at hj ⊢
      simp only [Option.map_some] at hj ⊢
      rw [Option.some.inj hj]) hb (by rw [List.length_map]; omega) (by rw [List.length_map]; omega) (by
        have e1 : (l.map sb).map (fun x => x.data.toList) = l := by rw [List.map_map]; exact List.map_id' _
        rw [e1]; exact hlen)
    rw [List.length_map, hl] at hx
    have e1 : (l.map sb).map (fun x => x.data.toList) = l := by rw [List.map_map]; exact List.map_id' _
    rw [e1] at hx
    refine hx.mono ?_
    rintro e w' ⟨he, hw⟩
    exact ⟨he, Keep.of_below hw⟩
end Go.Proofs.YtdfmmgepapiamaaDoor
