/- Append of a record that fits, or does not (for JournalFull). -/
import Derived.Test.YtbmmcdnmbdoglaaJ13
namespace Go.Proofs.Ytbmmcdnmbdoglaa
open Go.RowKit
set_option linter.unusedVariables false

/-- The first bytes of a block of zeros, as a string. -/
theorem conv_cut (W' : World) (b N k : Nat) (hb : W'.heap[b]? = some (.cells (madeCells #[.int .u8 0] N) 5 (0, 0))) (hk : k ≤ N) :
    (convert 43 9 (.slice (some ⟨b, 0, none⟩) k N)).run Try.prog W' = .ok (.string (sb (List.replicate k 0))) W' := by
  have h := run_back W' b 0 N (List.replicate k 0) (by
    intro j hj
    have hj' : j < k := by simpa using hj
    have hj2 : j < N := by omega
    rw [blk_cell hb, Nat.zero_add]
    have e0 : (madeCells #[.int .u8 0] N).toList = List.replicate N (.int .u8 0) := toList_madeCells_one _ _
    rw [← Array.getElem?_toList, e0]
    simp [hj2])
  rw [List.length_replicate] at h
  exact h
theorem append_full {n : Nat} {X : Nat → Prop} {w : World} {jp p C : Nat} {l : List Bytes} (h : GJ n X w jp p l C) (hC : C ≤ 1000000) (x : ByteArray) (hx : x.size ≤ 16777216) :
    Calls Try.prog 14 #[.pointer (some ⟨jp, 0, none⟩), .string x] w fun e w' => KX n X w w' ∧
      ((bytesOf l + x.size + 16 + 256 ≤ 16777216 ∧ e = .returned (.int .i64 0) ∧ GJ n X w' jp p (l ++ [bs x]) (C + 4)) ∨ (16777216 < bytesOf l + x.size + 16 + 256 ∧ e = .returned (.int .i64 2) ∧ GJ n X w' jp p l (C + 4))) := by
  by_cases hf : bytesOf l + x.size + 16 + 256 ≤ 16777216
  · refine (append_GJ h (by omega) x hf).mono ?_
    rintro e w' ⟨rfl, a, b⟩
    exact ⟨b, .inl ⟨hf, rfl, a⟩⟩
  · obtain ⟨d, j, h1, h2, h3, h4⟩ := h
    have hst := h2.stop
    have hby := h2.bytes
    have hm := h2.many
    have hl := sum4_le l
    have hos := open_sum h2.opn
    have hs4 : ∀ q : List Bytes, bytesOf q = sum4 q + 12 * q.length ∧ 4 * q.length ≤ sum4 q := by
      intro q
      induction q with
      | nil => simp [sum4, bytesOf]
      | cons r q ih => simp only [sum4, bytesOf, List.length_cons] at ih ⊢; omega
    have h12 := hs4 l
    have e1 : appendJ d j (bs x) = (2, d, j) := by
      unfold appendJ
      rw [h2.fine, bs_length, if_neg (by simp), if_pos (by omega)]
    refine (append_X h1 x (by omega) hst.1 hst.2.1 (by omega) (by omega) (good_few h2 h4 (by omega)) e1).mono ?_
    rintro e w' ⟨rfl, a, b⟩
    exact ⟨b, .inr ⟨by omega, rfl, d, j, a, h2, h3, by omega⟩⟩
end Go.Proofs.Ytbmmcdnmbdoglaa
