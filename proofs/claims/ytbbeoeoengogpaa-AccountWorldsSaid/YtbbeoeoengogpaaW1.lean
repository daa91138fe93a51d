/- A value's rightness: the reference's and the program's. -/
import Derived.Test.YtbbeoeoengogpaaAKB
import Derived.Test.YtbbeoeoengogpaaA6
import Derived.Test.YtbbeoeoengogpaaSHA
import Derived.Laws.RangeString
import Derived.Deep.RegionHeld3
namespace Go.Proofs.Ytbbeoeoengogpaa
open Go.RowKit Go.Lib
set_option linter.unusedVariables false

structure PlainS (s : ByteArray) : Prop where
  all : ∀ i, (h : i < s.size) → 32 ≤ (s[i]'h).toNat ∧ (s[i]'h).toNat ≤ 126
  size : s.size ≤ 200
/-- What is right. -/
def VR (a b : Int) (s : ByteArray) : Bool :=
  if a = 4 then b == 0
  else if s.size ≠ 0 then false
  else if a = 0 then b == 0
  else if a = 1 then b == 0
  else if a = 2 then (b == 0 || b == 1)
  else if a = 3 then (decide (-1000000000000000 ≤ b) && decide (b ≤ 1000000000000000))
  else if a = 5 then (decide (0 ≤ b) && decide (b ≤ 1000000000))
  else if a = 6 then (decide (0 ≤ b) && decide (b < 24))
  else false
set_option maxHeartbeats 1000000 in
theorem plain_any {s : ByteArray} (h : PlainS s) (w : World) : Calls Try.prog 55 #[.string s] w fun e w' => e = .returned (.bool true) ∧ w = w' := by
  have hs := h.size
  have H := Lib.hid h
  obtain ⟨n, hn⟩ : ∃ n, s.size = n := ⟨_, rfl⟩
  have HN := Lib.hid hn
  rw [hn] at hs
  clear h
  go_enter Try.func55, Try.ntmps55
  go_wp2_with fail
  go_loop [3] (fun i => ∃ k : Nat, k ≤ n ∧ i = .int .i64 (k : Int)) (fun i => n + 1 - (intOf i).toNat)
  case atStart => exact ⟨0, Nat.zero_le _, rfl⟩
  case round =>
    obtain ⟨k, hk, rfl⟩ := hrel
    by_cases hlt : k < n
    · have hb : decide (k < n) = true := by simpa using hlt
      have hks : k < s.size := by rw [HN.out]; exact hlt
      have hb2 := H.out.all k hks
      go_wp2_with fail
      exact ⟨⟨k + 1, by omega, by go_num⟩, by simp [intOf]; omega⟩
    · have hb : decide (k < n) = false := by simpa using hlt
      have hb3 : decide ((n : Int) ≤ 200) = true := by simp; omega
      go_wp2_with fail
      go_ret
      exact ⟨by rw [← hb3]; rfl, rfl⟩
def oddR (x : Nat) : Bool := decide (x < 32) || decide (126 < x)
theorem idx_plain {s : ByteArray} (h : PlainS s) : ∀ (f pos : Nat), Lib.idxFuncFrom oddR true s f pos = -1
  | 0, _ => rfl
  | f + 1, pos => by
    unfold Lib.idxFuncFrom
    split
    · rename_i hp
      obtain ⟨h1, h2⟩ := h.all pos hp
      rw [decode_ascii s pos hp (by omega)]
      have ho : oddR (s[pos]'hp).toNat = false := by simp [oddR]; omega
      simp only [ho]
      rw [if_neg (by decide)]
      exact idx_plain h f _
    · rfl
theorem pred_odd (w : World) : PredAt Try.prog 58 #[] encR oddR w := by
  intro W x _
  refine (?_ : Calls Try.prog 58 _ W _)
  show Calls Try.prog 58 #[.int .i32 (x : Int)] W _
  by_cases h1 : x < 32
  · have hb : decide ((x : Int) < 32) = true := by simp; omega
    have hb' : decide (x < 32) = true := by simpa using h1
    have ho : oddR x = true := by simp [oddR, h1]
    rw [ho]
    go_enter Try.func58, Try.ntmps58
    go_wp2
    go_ret
    exact ⟨rfl, 0, rfl⟩
  · have hb : decide ((x : Int) < 32) = false := by simp; omega
    have hb' : decide (x < 32) = false := by simpa using h1
    by_cases h2 : 126 < x
    · have hb2 : decide (126 < (x : Int)) = true := by simp; omega
      have hb2' : decide (126 < x) = true := by simpa using h2
      have ho : oddR x = true := by simp [oddR, h2]
      rw [ho]
      go_enter Try.func58, Try.ntmps58
      go_wp2
      go_ret
      exact ⟨rfl, 0, rfl⟩
    · have hb2 : decide (126 < (x : Int)) = false := by simp; omega
      have hb2' : decide (126 < x) = false := by simpa using h2
      have ho : oddR x = false := by simp [oddR]; omega
      rw [ho]
      go_enter Try.func58, Try.ntmps58
      go_wp2
      go_ret
      exact ⟨rfl, 0, rfl⟩
theorem contains_plain {s : ByteArray} (h : PlainS s) (w : World) : Calls Try.prog 57 #[.string s, .func (.func 58) #[] #[]] w fun e w' => e = .returned (.bool false) ∧ Below w.heap.size w w' := by
  have hi : Lib.idxFunc oddR true s = -1 := idx_plain h _ _
  have := Try.strings_ContainsFunc 58 #[] (enters_of Try.func58 (by kernel_rfl) rfl) oddR s w (pred_odd w)
  rw [hi] at this
  exact this
end Go.Proofs.Ytbbeoeoengogpaa
