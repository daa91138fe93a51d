/- facsimileref01: Word; strings that are plain. -/
import Derived.Test.YtbbeoeoengogpaaW5
namespace Go.Proofs.Ytbbeoeoengogpaa
open Go.RowKit Go.Lib
set_option linter.unusedVariables false

def plainL (l : List UInt8) : Bool := decide (l.length ≤ 200) && l.all (fun b => decide (32 ≤ b.toNat) && decide (b.toNat ≤ 126))
theorem plainS_of {l : List UInt8} (h : plainL l = true) : PlainS ⟨l.toArray⟩ := by
  unfold plainL at h
  rw [Bool.and_eq_true, decide_eq_true_eq, List.all_eq_true] at h
  refine ⟨fun i hi => ?_, by show l.toArray.size ≤ 200; simpa using h.1⟩
  have hi' : i < l.length := by have : i < l.toArray.size := hi; simpa using this
  have e : (⟨l.toArray⟩ : ByteArray)[i]'hi = l[i]'hi' := by
    show l.toArray[i] = _
    simp
  have := h.2 _ (List.getElem_mem hi')
  rw [Bool.and_eq_true, decide_eq_true_eq, decide_eq_true_eq] at this
  rw [e]
  exact this
set_option maxHeartbeats 1000000 in
theorem word_any (n : Int) (w : World) : Calls Try.prog 48 #[.int .i64 n] w fun e w' => ∃ s, e = .returned (.string s) ∧ PlainS s ∧ Keep (fun _ => False) w w' := by
  obtain ⟨r, hr, hM⟩ := mod1_any n 8 (by omega)
  have HM := Lib.hid hM
  obtain ⟨i, rfl⟩ := Int.eq_ofNat_of_zero_le hr.1
  have hi8 : i < 8 := by omega
  have HK := Lib.hid ((Keep.refl (fun _ => False) w).alloc' (.cells #[.string ⟨#[120]⟩, .string ⟨#[121]⟩, .string ⟨#[105]⟩, .string ⟨#[109, 97, 105, 110]⟩, .string ⟨#[102, 49]⟩, .string ⟨#[78, 111, 100, 101]⟩, .string ⟨#[97, 98, 99, 100, 101, 102, 103, 104, 105, 106, 107, 108]⟩, .string ⟨#[110, 101, 120, 116]⟩] 9))
  have hbl := heap_alloc_new w (.cells #[.string ⟨#[120]⟩, .string ⟨#[121]⟩, .string ⟨#[105]⟩, .string ⟨#[109, 97, 105, 110]⟩, .string ⟨#[102, 49]⟩, .string ⟨#[78, 111, 100, 101]⟩, .string ⟨#[97, 98, 99, 100, 101, 102, 103, 104, 105, 106, 107, 108]⟩, .string ⟨#[110, 101, 120, 116]⟩] 9)
  have hx := blk_cell hbl i
  have hri : ∃ s, PlainS s ∧ (w.alloc (.cells #[.string ⟨#[120]⟩, .string ⟨#[121]⟩, .string ⟨#[105]⟩, .string ⟨#[109, 97, 105, 110]⟩, .string ⟨#[102, 49]⟩, .string ⟨#[78, 111, 100, 101]⟩, .string ⟨#[97, 98, 99, 100, 101, 102, 103, 104, 105, 106, 107, 108]⟩, .string ⟨#[110, 101, 120, 116]⟩] 9)).cell? ⟨w.heap.size, i, none⟩ = some (.string s) := by
    rw [hx]
    rcases i with _ | _ | _ | _ | _ | _ | _ | _ | i
    all_goals first | exact ⟨_, plainS_of (l := [120]) rfl, rfl⟩ | exact ⟨_, plainS_of (l := [121]) rfl, rfl⟩ | exact ⟨_, plainS_of (l := [105]) rfl, rfl⟩ | exact ⟨_, plainS_of (l := [109, 97, 105, 110]) rfl, rfl⟩ | exact ⟨_, plainS_of (l := [102, 49]) rfl, rfl⟩ | exact ⟨_, plainS_of (l := [78, 111, 100, 101]) rfl, rfl⟩ | exact ⟨_, plainS_of (l := [97, 98, 99, 100, 101, 102, 103, 104, 105, 106, 107, 108]) rfl, rfl⟩ | exact ⟨_, plainS_of (l := [110, 101, 120, 116]) rfl, rfl⟩ | omega
  obtain ⟨s, hs, hc⟩ := hri
  have HS := Lib.hid hs
  clear hx hbl hM hs
  go_enter Try.func48, Try.ntmps48
  go_wp2_with fail
  ((with_reducible refine (HM.out _).mono ?_); rintro e w' ⟨rfl, rfl⟩)
  go_wp2_with fail
  go_ret
  exact ⟨s, rfl, HS.out, HK.out⟩
end Go.Proofs.Ytbbeoeoengogpaa
