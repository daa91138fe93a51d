/- Install: install.New. -/
import Derived.Test.YtnhajhejkecihaaIZ
namespace Go.Proofs.Ytnhajhejkecihaa
open Go.RowKit Go.Lib
set_option linter.unusedVariables false

def MS.new (n : Nat) : MS := ⟨List.replicate n (-1), [], 0⟩
theorem MS.new_inv {n : Nat} (hn : 1 ≤ n ∧ n ≤ 4) : (MS.new n).Inv := by
  refine ⟨by simpa [MS.new] using hn, by simp [MS.new], by simp [MS.new], by simp [MS.new], by simp [MS.new], by simp [MS.new], by simp [MS.new], fun v hv => ?_⟩
  have := List.eq_of_mem_replicate hv
  subst this
  exact ⟨by omega, by simp [MS.new]⟩
set_option maxRecDepth 100000 in
set_option maxHeartbeats 4000000 in
theorem new_any (w : World) (n : Nat) (hn : 1 ≤ n ∧ n ≤ 4) : Calls Try.prog 6 #[.int .i64 n] w fun e w' => ∃ p r, e = .returned (.tuple #[.pointer (some ⟨p, 0, none⟩), .int .i64 0]) ∧ IsStore w.heap.size w' p r (MS.new n) ∧ Since w.heap.size w w' := by
  have HB := Lib.hid (board_new w n hn)
  have HR := Lib.hid (fun (W : World) (xb : Nat) (c : Nat) (h : W.cell? ⟨xb, 0, none⟩ = some (.int .i64 (-1))) (hl : xb < W.heap.size) => repeat_any (c := c) h hl n hn)
  go_enter Try.func6, Try.ntmps6
  go_wp2_with fail
  ((with_reducible refine HB.out.mono ?_); rintro e w1 ⟨b, r, rfl, ib, low, since⟩)
  have H1 := Lib.hid (And.intro ib (And.intro low since))
  clear HB ib low since
  go_wp2_with fail
  ((with_reducible refine (HR.out _ _ _ (by exact (blk_cell (heap_alloc_new w1 _) 0).trans rfl) (by simp)).mono ?_); rintro e w2 ⟨g, rfl, hg, hgl, hk⟩)
  have H2 := Lib.hid (And.intro hg (And.intro hgl hk))
  clear HR hg hgl hk
  go_wp2_with fail
  go_ret2
  obtain ⟨ib, low, since⟩ := H1.out
  obtain ⟨hg, hgl, hk⟩ := H2.out
  have k1 : Keep (fun _ => False) w1 w2 := Keep.trans ((Keep.refl (fun _ => False) w1).alloc' _) hk
  have k2 := k1.alloc' (.cells #[.pointer (some ⟨b, 0, none⟩), .slice (some ⟨g, 0, none⟩) n n, .slice none 0 0, .int .i64 0] 57)
  have hw1 : w1.heap.size < g := by
    have : w1.heap.size + 1 ≤ g := by simpa using hgl
    omega
  have hgo := alloc_old' (o' := .cells #[.pointer (some ⟨b, 0, none⟩), .slice (some ⟨g, 0, none⟩) n n, .slice none 0 0, .int .i64 0] 57) hg
  refine ⟨w2.heap.size, ⟨b, r, g, n, none, 0, [], [], []⟩, rfl, ⟨?_, ⟨_, _, ib.keep k2 (fun _ _ => id), ?_⟩, ?_, World.ownsRow_nil _ _ _ _, fun i hi => (by simp [MS.new] at hi), by simp, ?_, by simp [MS.new], ?_, MS.new_inv hn⟩, ?_⟩
  · simp only [MS.new, List.length_replicate]
    exact heap_alloc_new _ _
  · refine ⟨by simp [MS.new], by simp [MS.new], fun c _ e he => (by simp [MS.new] at he)⟩
  · simp only [MS.new, List.length_replicate]
    refine ⟨by simp [ints], .inr ⟨g, n, (ints (List.replicate n (-1))).toArray, rfl, Nat.zero_le _, hgo, by omega, by unfold maxLen; omega, by simp [ints], ?_⟩⟩
    simp [ints]
  · simp
    exact ib.nodup
  · rintro k (rfl | hk' | rfl | ⟨a, ha, _⟩ | hk' | hk')
    · have := since.size; have := k1.size; omega
    · exact low k hk'
    · have := since.size; omega
    · cases ha
    · cases hk'
    · cases hk'
  · exact Keep.trans since (Since.of k2)
end Go.Proofs.Ytnhajhejkecihaa
