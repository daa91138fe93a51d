/- Acts: Where, Long; survive. -/
import Derived.Test.YthhcnfbolhoeaaaR5
import Derived.IntWalk
namespace Go.Proofs.Ythhcnfbolhoeaaa
open Go.RowKit
set_option linter.unusedVariables false

structure Act' where
  (kind off n : Int)
  (text : ByteArray)
def i64In (x : Int) : Prop := -9223372036854775808 ≤ x ∧ x ≤ 9223372036854775807
structure Act'.Ok (a : Act') : Prop where
  kind : i64In a.kind
  off : i64In a.off
  n : i64In a.n
  text : a.text.size ≤ 9223372036854775807
def Act'.val (a : Act') : Value := .agg #[.int .i64 a.kind, .int .i64 a.off, .int .i64 a.n, .string a.text]
def Act'.where_ (a : Act') : Int := if a.off < 0 ∨ 16777216 < a.off then a.off else a.off % 300
def growF (t : ByteArray) (N : Int) : Nat → ByteArray → ByteArray
  | 0, s => s
  | f + 1, s => if 0 < s.size ∧ (s.size : Int) < N then growF t N f (s ++ t) else s
def Act'.long (a : Act') : ByteArray := (growF a.text (a.n % 200) 200 a.text).extract 0 (min (growF a.text (a.n % 200) 200 a.text).size 200)
theorem Act'.long_size (a : Act') : a.long.size ≤ 200 := by
  unfold Act'.long
  rw [ByteArray.size_extract]
  omega

theorem growF_stop (t : ByteArray) (N : Int) : ∀ (f : Nat) (s : ByteArray), ¬ (0 < s.size ∧ (s.size : Int) < N) → growF t N f s = s
  | 0, _, _ => rfl
  | f + 1, s, h => by unfold growF; rw [if_neg h]
theorem where_any (w : World) (a : Act') (h : a.Ok) : Calls Try.prog 34 #[.agg #[.int .i64 a.kind, .int .i64 a.off, .int .i64 a.n, .string a.text]] w fun e w' => e = .returned (.int .i64 a.where_) ∧ Keep (fun _ => False) w w' := by
  obtain ⟨kd, off, n, text⟩ := a
  have hoff := h.off
  simp only [i64In] at hoff
  have hk : ∀ o, Keep (fun _ => False) w (w.alloc o) := fun o => (Keep.refl _ w).alloc' o
  unfold Act'.where_
  simp only
  by_cases h1 : off < 0
  · rw [if_pos (.inl h1)]
    have d1 : decide (off < 0) = true := by simpa using h1
    go_enter Try.func34, Try.ntmps34
    go_wp2_with fail
    go_ret
    exact ⟨rfl, hk _⟩
  · have d1 : decide (off < 0) = false := by simpa using h1
    by_cases h2 : 16777216 < off
    · rw [if_pos (.inr h2)]
      have d2 : decide (16777216 < off) = true := by simpa using h2
      go_enter Try.func34, Try.ntmps34
      go_wp2_with fail
      go_ret
      exact ⟨rfl, hk _⟩
    · rw [if_neg (by omega)]
      have d2 : decide (16777216 < off) = false := by simpa using h2
      go_enter Try.func34, Try.ntmps34
      go_wp2_with fail
      refine (mod_any _ off 300 (by decide) (by decide) hoff).mono ?_
      rintro e wx ⟨rfl, rfl⟩
      go_wp2_with fail
      go_ret
      exact ⟨rfl, hk _⟩

set_option maxHeartbeats 1000000 in
theorem long_any (w : World) (a : Act') (h : a.Ok) : Calls Try.prog 36 #[.agg #[.int .i64 a.kind, .int .i64 a.off, .int .i64 a.n, .string a.text]] w fun e w' => e = .returned (.string a.long) ∧ Keep (fun _ => False) w w' := by
  obtain ⟨kd, off, n, text⟩ := a
  have hn := h.n
  have ht := h.text
  simp only [i64In] at hn ht
  unfold Act'.long
  simp only
  obtain ⟨G, hG⟩ : ∃ G, growF text (n % 200) 200 text = G := ⟨_, rfl⟩
  rw [hG]
  obtain ⟨N, hN⟩ : ∃ N : Nat, n % 200 = N := ⟨(n % 200).toNat, by omega⟩
  have hN2 : N < 200 := by omega
  have M := fun w => Lib.hid (hN ▸ mod_any w n 200 (by decide) (by decide) hn)
  rw [hN] at hG
  have HG := Lib.hid hG
  obtain ⟨k, hk0⟩ : ∃ k : Nat, min G.size 200 = k := ⟨_, rfl⟩
  rw [hk0]
  have HK0 := Lib.hid hk0
  clear hk0
  have hk : ∀ o, Keep (fun _ => False) w (w.alloc o) := fun o => (Keep.refl _ w).alloc' o
  obtain ⟨wa, hwa⟩ : ∃ wa, w.alloc (.cells #[.int .i64 kd, .int .i64 off, .int .i64 n, .string text] 33) = wa := ⟨_, rfl⟩
  have hka : Keep (fun _ => False) w wa := by rw [← hwa]; exact hk _
  have hb : wa.heap[w.heap.size]? = some (.cells #[.int .i64 kd, .int .i64 off, .int .i64 n, .string text] 33 (0, 0)) := by rw [← hwa]; exact heap_alloc_new w _
  have c2 : wa.cell? ⟨w.heap.size, 2, none⟩ = some (.int .i64 n) := by rw [blk_cell hb]; rfl
  have c3 : wa.cell? ⟨w.heap.size, 3, none⟩ = some (.string text) := by rw [blk_cell hb]; rfl
  have HKA := Lib.hid hka
  clear hG hN hk hb h hka
  go_enter Try.func36, Try.ntmps36
  go_wp2_with fail
  clear hwa
  go_loop [3] (fun u => ∃ (s : ByteArray) (f : Nat), u = .string s ∧ Hid (growF text N f s = G) ∧ N ≤ f + s.size ∧ text.size ≤ s.size ∧ Hid (0 < s.size → 0 < text.size)) (fun u => N - strSize u)
  case atStart => exact ⟨text, 200, rfl, HG, by omega, Nat.le_refl _, Lib.hid id⟩
  case round =>
    obtain ⟨s, f, rfl, hg, hf, hle, hp⟩ := hrel
    by_cases hs0 : 0 < s.size
    · have hb0 : decide (0 < s.size) = true := by simpa using hs0
      by_cases hsN : s.size < N
      · have hb1 : decide (s.size < N) = true := by simpa using hsN
        have hadd : s.size + text.size ≤ 9223372036854775807 := by omega
        have hpos := hp.out hs0
        obtain ⟨f', rfl⟩ : ∃ f', f = f' + 1 := ⟨f - 1, by omega⟩
        have hg2 : growF text N f' (s ++ text) = G := by
          have := hg.out
          unfold growF at this
          rwa [if_pos ⟨hs0, by omega⟩] at this
        have HG2 := Lib.hid hg2
        clear hg2 hg
        go_wp2_with fail
        refine (M wa).out.mono ?_
        rintro e wx ⟨rfl, rfl⟩
        go_wp2_with fail
        go_round
        case rel => exact ⟨s ++ text, f', rfl, HG2, by rw [size_append]; omega, by rw [size_append]; omega, Lib.hid (fun _ => hpos)⟩
        case measure =>
          show N - (s ++ text).size < N - s.size
          rw [size_append]; omega
      · have hb1 : decide (s.size < N) = false := by simpa using hsN
        have hsG : s = G := by rw [← hg.out, growF_stop _ _ _ _ (by omega)]
        subst hsG
        have hk := HK0.out
        have hmin : ∀ w, (Builtin.min_ #[3, 3] 3 #[.int .i64 (s.size : Int), .int .i64 200]).run Try.prog w = .ok (.int .i64 (k : Int)) w := by
          intro w
          rw [run_min_int2]
          congr 2
          split <;> omega
        have hk1 : k ≤ s.size := by omega
        clear hk hg
        go_wp2_with fail
        refine (M wa).out.mono ?_
        rintro e wx ⟨rfl, rfl⟩
        go_wp2_with fail
        go_ret
        exact ⟨rfl, HKA.out⟩
    · have hb0 : decide (0 < s.size) = false := by simpa using hs0
      have hsG : s = G := by rw [← hg.out, growF_stop _ _ _ _ (by omega)]
      subst hsG
      have hk := HK0.out
      have hmin : ∀ w, (Builtin.min_ #[3, 3] 3 #[.int .i64 (s.size : Int), .int .i64 200]).run Try.prog w = .ok (.int .i64 (k : Int)) w := by
        intro w
        rw [run_min_int2]
        congr 2
        split <;> omega
      have hk1 : k ≤ s.size := by omega
      clear hk hg
      go_wp2_with fail
      go_ret
      exact ⟨rfl, HKA.out⟩

def survL (n : Int) : List Int := [n, n.tdiv 2, n.tdiv 3, n.tdiv 5, n.tdiv 7].take (n % 6).toNat
theorem tdiv_in {n : Int} (k : Int) (hn : i64In n) (hk : 1 ≤ k) : i64In (n.tdiv k) := by
  unfold i64In at *
  rcases Int.le_total 0 n with h | h
  · have h1 : 0 ≤ n.tdiv k := Int.tdiv_nonneg h (by omega)
    have h2 : n.tdiv k ≤ n := Int.tdiv_le_self _ h
    omega
  · have e : n.tdiv k = -((-n).tdiv k) := by rw [Int.neg_tdiv]; omega
    have h1 : 0 ≤ (-n).tdiv k := Int.tdiv_nonneg (by omega) (by omega)
    have h2 : (-n).tdiv k ≤ -n := Int.tdiv_le_self _ (by omega)
    omega
theorem survL_in {n : Int} (hn : i64In n) : ∀ x ∈ survL n, i64In x := by
  intro x hx
  have := List.mem_of_mem_take hx
  simp only [List.mem_cons, List.not_mem_nil, or_false] at this
  rcases this with rfl | rfl | rfl | rfl | rfl
  · exact hn
  · exact tdiv_in 2 hn (by decide)
  · exact tdiv_in 3 hn (by decide)
  · exact tdiv_in 5 hn (by decide)
  · exact tdiv_in 7 hn (by decide)
theorem survive_any (w : World) (n : Int) (hn : i64In n) : Calls Try.prog 25 #[.int .i64 n] w fun e w' => ∃ A m c, e = .returned (.slice A m c) ∧ IntsAt w' A m (survL n) ∧ Keep (fun _ => False) w w' := by
  have h2 := tdiv_in 2 hn (by decide)
  have h3 := tdiv_in 3 hn (by decide)
  have h5 := tdiv_in 5 hn (by decide)
  have h7 := tdiv_in 7 hn (by decide)
  unfold survL
  unfold i64In at *
  obtain ⟨a2, e2⟩ : ∃ a, n.tdiv 2 = a := ⟨_, rfl⟩
  obtain ⟨a3, e3⟩ : ∃ a, n.tdiv 3 = a := ⟨_, rfl⟩
  obtain ⟨a5, e5⟩ : ∃ a, n.tdiv 5 = a := ⟨_, rfl⟩
  obtain ⟨a7, e7⟩ : ∃ a, n.tdiv 7 = a := ⟨_, rfl⟩
  rw [e2] at h2; rw [e3] at h3; rw [e5] at h5; rw [e7] at h7
  rw [e2, e3, e5, e7]
  obtain ⟨k, hk⟩ : ∃ k : Nat, n % 6 = k := ⟨(n % 6).toNat, by omega⟩
  have hk6 : k < 6 := by omega
  have M := fun w => Lib.hid (hk ▸ mod_any w n 6 (by decide) (by decide) hn)
  rw [hk]
  have hIA := cells_new w [.int .i64 n, .int .i64 a2, .int .i64 a3, .int .i64 a5, .int .i64 a7] 3
  have hI : IntsAt (w.alloc (.cells #[.int .i64 n, .int .i64 a2, .int .i64 a3, .int .i64 a5, .int .i64 a7] 3)) (some ⟨w.heap.size, 0, none⟩) 5 [n, a2, a3, a5, a7] := hIA
  have hT := hI.take k (by omega)
  rw [ints_take] at hT
  have HT := Lib.hid hT
  have hkk : (k : Int) ≤ 5 := by omega
  have hkn : k ≤ 5 := by omega
  have hK : Keep (fun _ => False) w (w.alloc (.cells #[.int .i64 n, .int .i64 a2, .int .i64 a3, .int .i64 a5, .int .i64 a7] 3)) := (Keep.refl _ w).alloc' _
  have HK := Lib.hid hK
  clear hk hIA hI hT hK
  go_enter Try.func25, Try.ntmps25
  go_wp2_with fail
  refine (M _).out.mono ?_
  rintro e wx ⟨rfl, rfl⟩
  go_wp2_with fail
  go_ret
  exact ⟨_, _, _, rfl, HT.out, HK.out⟩
end Go.Proofs.Ythhcnfbolhoeaaa
