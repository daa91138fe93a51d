/- Plain laws on an Append during which the power fails. -/
import Derived.Test.YtbmmcdnmbdoglaaJP
namespace Go.Proofs.Ytbmmcdnmbdoglaa
set_option linter.unusedVariables false

/-- What opens is l, or l and x. -/
def Either (c : Bytes) (l : List Bytes) (x : Bytes) : Prop := (∃ E, openL c = some (E, l)) ∨ ∃ E, openL c = some (E, l ++ [x])
structure Torn (d : DS) (l : List Bytes) (x : Bytes) : Prop where
  now : Either d.now l x
  crash : ∀ ns, Either (d.crash ns).now l x
  parts : d.parts.length ≤ x.length + 12
  off : d.off = true
theorem off_at {d : DS} (h : d.failing = true) {k : Int} (hl : d.left = k) : d.off = decide (k = 0) := by unfold DS.off; rw [h, hl]; rfl
theorem left_write {d : DS} (h : d.failing = true) {k : Int} (hl : d.left = k) (o : Nat) (s : Bytes) : (d.write o s).failing = true ∧ (d.write o s).left = k - 1 := by
  refine ⟨h, ?_⟩
  show (if d.failing then d.left - 1 else d.left) = _
  rw [h, hl]; rfl
theorem left_sync {d : DS} (h : d.failing = true) {k : Int} (hl : d.left = k) : d.sync.failing = true ∧ d.sync.left = k - 1 := by
  refine ⟨h, ?_⟩
  show (if d.failing then d.left - 1 else d.left) = _
  rw [h, hl]; rfl

theorem append_fails {d : DS} {j : JS} {l : List Bytes} (h : Good d j l) (hp : d.failing = true) {k : Nat} (hk : d.left = (k : Int)) (x : Bytes) (hx : j.bytes + x.length + 16 + 256 ≤ 16777216) :
    ∃ d', (∃ j', appendJ d j x = (0, d', j') ∧ Good d' j' (l ++ [x]) ∧ d'.calls = d.calls + 4 ∧ d'.failing = true ∧ d'.left = (k : Int) - 4 ∧ 4 ≤ k) ∨
      (appendJ d j x = (70, d', { j with broken := true }) ∧ Torn d' l x ∧ d.calls ≤ d'.calls ∧ d'.calls ≤ d.calls + 4) := by
  have hs := h.stop
  obtain ⟨nx, hnx⟩ : ∃ nx, j.stop + 4 + x.length = nx := ⟨_, rfl⟩
  have hfit1 : j.stop + (numL x.length 4 ++ x).length ≤ 16777216 := by rw [List.length_append, numL_length]; omega
  have hfit3 : 0 + (numL (nx - 64) 8).length ≤ 16777216 := by rw [numL_length]; omega
  have o0 := off_at hp hk
  have hE : ∀ c, Either c l x → ∀ e, e = c → Either e l x := fun c h e he => he ▸ h
  have app : ∀ e d', stepsJ d j.stop x nx = (e, d') → appendJ d j x = if e = 0 then (0, d', ⟨j.many + 1, j.bytes + x.length + 16, nx, false⟩) else (e, d', { j with broken := true }) := by
    intro e d' es
    unfold appendJ
    rw [h.fine, if_neg (by simp), if_neg (by omega), hnx, es]
  have oc1 := open_c1 h.opn x
  have oc2 := open_c2 h.opn x (by omega) (by omega)
  obtain ⟨t, ht⟩ : ∃ t, numL x.length 4 ++ x = t := ⟨_, rfl⟩
  have htl : t.length = 4 + x.length := by rw [← ht, List.length_append, numL_length]
  have hc1 : c1L d.now j.stop x = putL d.now j.stop t := by rw [← ht]; rfl
  have hc2 : c2L d.now j.stop x = putL (putL d.now j.stop t) 0 (numL (nx - 64) 8) := by rw [← hc1, ← hnx]; rfl
  rw [ht] at hfit1
  by_cases h0 : k = 0
  · subst h0
    have ho : d.off = true := by rw [o0]; rfl
    have es : stepsJ d j.stop x nx = (70, d) := by
      unfold stepsJ
      rw [ht, doWrite_off hfit1 ho, if_neg (show ¬ (70 : Int) = 0 by decide)]
    refine ⟨d, .inr ⟨by rw [app _ _ es, if_neg (by decide)], ⟨.inl ⟨_, h.opn⟩, fun ns => .inl ⟨_, (good_crash h ns).opn⟩, by rw [h.prt]; simp, ho⟩, Int.le_refl _, by omega⟩⟩
  have ho : d.off = false := by rw [o0]; simp; omega
  obtain ⟨w1f, w1l⟩ := left_write hp hk j.stop t
  have e1 := doWrite_on hfit1 ho
  have o1 := off_at w1f w1l
  by_cases h1 : k = 1
  · subst h1
    have ho1 : (d.write j.stop t).off = true := by rw [o1]; rfl
    have es : stepsJ d j.stop x nx = (70, d.write j.stop t) := by
      unfold stepsJ
      rw [ht, e1, if_pos rfl, doSync_off ho1, if_neg (show ¬ (70 : Int) = 0 by decide)]
    refine ⟨_, .inr ⟨by rw [app _ _ es, if_neg (by decide)], ⟨.inl ⟨j.stop, ?_⟩, fun ns => .inl ⟨j.stop, ?_⟩, ?_, ho1⟩, by show d.calls ≤ d.calls + 1; omega, by show d.calls + 1 ≤ _; omega⟩⟩
    · show openL (putL d.now j.stop t) = _
      rw [← hc1]; exact oc1
    · show openL (crashL ns 0 d.synced (d.parts ++ pieces j.stop t)) = _
      rw [h.prt, h.syn, List.nil_append]
      exact open_torn h.opn t ns
    · show (d.parts ++ pieces j.stop t).length ≤ _
      rw [h.prt, List.nil_append]
      have := pieces_length t.length j.stop t (Nat.le_refl _)
      omega
  have ho1 : (d.write j.stop t).off = false := by rw [o1]; simp; omega
  have e2 := doSync_on ho1
  obtain ⟨w2f, w2l⟩ := left_sync w1f w1l
  have o2 := off_at w2f w2l
  by_cases h2 : k = 2
  · subst h2
    have ho2 : (d.write j.stop t).sync.off = true := by rw [o2]; rfl
    have es : stepsJ d j.stop x nx = (70, (d.write j.stop t).sync) := by
      unfold stepsJ
      rw [ht, e1, if_pos rfl, e2, if_pos rfl, show ((d.write j.stop t).sync.doWrite 0 (numL (nx - 64) 8)) = (70, (d.write j.stop t).sync) from doWrite_off (off := 0) hfit3 ho2, if_neg (show ¬ (70 : Int) = 0 by decide)]
    refine ⟨_, .inr ⟨by rw [app _ _ es, if_neg (by decide)], ⟨.inl ⟨j.stop, ?_⟩, fun ns => .inl ⟨j.stop, ?_⟩, by show ([] : List (Nat × Bytes)).length ≤ _; simp, ho2⟩, by show d.calls ≤ d.calls + 1 + 1; omega, by show d.calls + 1 + 1 ≤ _; omega⟩⟩
    · show openL (putL d.now j.stop t) = _
      rw [← hc1]; exact oc1
    · show openL (putL d.now j.stop t) = _
      rw [← hc1]; exact oc1
  have ho2 : (d.write j.stop t).sync.off = false := by rw [o2]; simp; omega
  have e3 : ((d.write j.stop t).sync.doWrite 0 (numL (nx - 64) 8)) = (0, (d.write j.stop t).sync.write 0 (numL (nx - 64) 8)) := doWrite_on (off := 0) hfit3 ho2
  obtain ⟨w3f, w3l⟩ := left_write w2f w2l 0 (numL (nx - 64) 8)
  have o3 := off_at w3f w3l
  by_cases h3 : k = 3
  · subst h3
    have ho3 : ((d.write j.stop t).sync.write 0 (numL (nx - 64) 8)).off = true := by rw [o3]; rfl
    have es : stepsJ d j.stop x nx = (70, (d.write j.stop t).sync.write 0 (numL (nx - 64) 8)) := by
      unfold stepsJ
      rw [ht, e1, if_pos rfl, e2, if_pos rfl, e3, if_pos rfl, doSync_off ho3]
    refine ⟨_, .inr ⟨by rw [app _ _ es, if_neg (by decide)], ⟨.inr ⟨j.stop + 4 + x.length, ?_⟩, fun ns => ?_, ?_, ho3⟩, by show d.calls ≤ d.calls + 1 + 1 + 1; omega, by show d.calls + 1 + 1 + 1 ≤ _; omega⟩⟩
    · show openL (putL (putL d.now j.stop t) 0 (numL (nx - 64) 8)) = _
      rw [← hc2]; exact oc2
    · have hp8 : pieces 0 (numL (nx - 64) 8) = [(0, numL (nx - 64) 8)] := pieces_eight _ (numL_length _ _)
      show Either (crashL ns 0 (putL d.now j.stop t) ([] ++ pieces 0 (numL (nx - 64) 8))) l x
      rw [List.nil_append, hp8]
      show Either (if lives ns 0 then putL (putL d.now j.stop t) 0 (numL (nx - 64) 8) else putL d.now j.stop t) l x
      split
      · rw [← hc2]; exact .inr ⟨_, oc2⟩
      · rw [← hc1]; exact .inl ⟨_, oc1⟩
    · have hp8 : pieces 0 (numL (nx - 64) 8) = [(0, numL (nx - 64) 8)] := pieces_eight _ (numL_length _ _)
      show ([] ++ pieces 0 (numL (nx - 64) 8)).length ≤ _
      rw [List.nil_append, hp8]
      show 1 ≤ _
      omega
  have ho3 : ((d.write j.stop t).sync.write 0 (numL (nx - 64) 8)).off = false := by rw [o3]; simp; omega
  have e4 := doSync_on ho3
  obtain ⟨w4f, w4l⟩ := left_sync w3f w3l
  have es : stepsJ d j.stop x nx = (0, ((d.write j.stop t).sync.write 0 (numL (nx - 64) 8)).sync) := by
    unfold stepsJ
    rw [ht, e1, if_pos rfl, e2, if_pos rfl, e3, if_pos rfl, e4]
  refine ⟨_, .inl ⟨_, by rw [app _ _ es, if_pos rfl], ⟨rfl, rfl, ?_, ?_, ?_, rfl⟩, ?_, w4f, by rw [w4l]; omega, by omega⟩⟩
  · show openL (putL (putL d.now j.stop t) 0 (numL (nx - 64) 8)) = some (nx, l ++ [x])
    rw [← hc2, oc2, hnx]
  · show j.many + 1 = (l ++ [x]).length
    rw [h.many]; simp
  · show j.bytes + x.length + 16 = bytesOf (l ++ [x])
    rw [h.bytes, bytesOf_append]; simp [bytesOf]; omega
  · show d.calls + 1 + 1 + 1 + 1 = d.calls + 4
    omega
end Go.Proofs.Ytbmmcdnmbdoglaa
