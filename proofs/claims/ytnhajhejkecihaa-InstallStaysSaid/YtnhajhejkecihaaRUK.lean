/- Regions that draw their order, where loads are taken first and the operations that wait for all of them (a last store) may turn what they read: a condition on the world that holds till those come up. -/
import Derived.Test.YtnhajhejkecihaaKB
import Derived.Deep.RegionHeld3
namespace Go.Proofs.Ytnhajhejkecihaa
open Go.RowKit
set_option linter.unusedVariables false

section
variable {P : Program} {md : Region.Mode} {ops : Array Oper} {Q : Exit → Act → World → Prop} {S : World → Prop} {D : List Nat}
/-- Whatever comes up next; behind it S holds, unless it is one of D. -/
def wpAnyU (P : Program) (md : Region.Mode) (ops : Array Oper) (Q : Exit → Act → World → Prop) (S : World → Prop) (D : List Nat) : Nat → Array Bool → Act → World → Prop
  | 0, listed, a, w => Region.ready md ops listed = [] ∧ Q .normal a w
  | fuel + 1, listed, a, w => (Region.ready md ops listed = [] → Q .normal a w) ∧
      ∀ i ∈ Region.ready md ops listed, wpOp P ops Q i (fun b u => (D.contains i = true ∨ S u) ∧ wpAnyU P md ops Q S D fuel (listed.setIfInBounds i true) b u) a w
theorem wpAnyU_any : ∀ (fuel : Nat) (listed : Array Bool) (a : Act) (w : World), wpAnyU P md ops Q S D fuel listed a w → wpAny P md ops Q fuel listed a w
  | 0, _, _, _, h => h
  | fuel + 1, _, _, _, h => ⟨h.1, fun i hi => wpOp_mono (fun b u k => wpAnyU_any fuel _ b u k.2) (h.2 i hi)⟩
/-- All of D that have not come up wait for i. -/
def waits (md : Region.Mode) (ops : Array Oper) (listed : Array Bool) (D : List Nat) (i : Nat) : Bool := D.all fun j => listed.getD j true || match ops[j]? with
  | some o => o.after.any fun e => Region.binds md e && e.on == i
  | none => true
theorem waits_spec {i j : Nat} {o : Oper} {listed : Array Bool} (h : waits md ops listed D i = true) (hj : D.contains j = true) (hun : listed.getD j true = false) (ho : ops[j]? = some o) : ∃ e ∈ o.after, Region.binds md e = true ∧ e.on = i := by
  have h1 := List.all_eq_true.1 h j (by simpa using hj)
  simp only [ho, hun, Bool.false_or, Array.any_eq_true', Bool.and_eq_true, beq_iff_eq] at h1
  exact h1
theorem wpAnyU_take {i : Nat} {oi : Oper} {v : Value} {fuel : Nat} {listed : Array Bool} {a : Act} {w : World} (hi : ops[i]? = some oi) (hs : Region.noSelect ops = true)
    (hf : Region.free md ops listed i = true) (hr : (Region.ready md ops listed).contains i = true) (hd : waits md ops listed D i = true) (hQ : ∀ c a w, Q (.panic c) (a.put oi.dst v) w → Q (.panic c) a w)
    (hy : YieldsIf P ops S oi v a) (hS : S w) (h : wpAnyU P md ops Q S D fuel (listed.setIfInBounds i true) (a.put oi.dst v) w) : wpAnyU P md ops Q S D (fuel + 1) listed a w := by
  have hsel := Region.noSelect_spec hs
  have main : ∀ (fuel : Nat) (listed : Array Bool) (a : Act) (w : World),
      (∀ j oj, D.contains j = true → listed.getD j true = false → ops[j]? = some oj → ∃ e ∈ oj.after, Region.binds md e = true ∧ e.on = i) →
      (∀ j oj, ops[j]? = some oj → j ≠ i → listed.getD j true = false → (∀ e ∈ oj.after, Region.binds md e = true → e.on ≠ i) → oi.apart ops oj = true) →
      i ∈ Region.ready md ops listed → YieldsIf P ops S oi v a → S w → wpAnyU P md ops Q S D fuel (listed.setIfInBounds i true) (a.put oi.dst v) w → wpAnyU P md ops Q S D (fuel + 1) listed a w := by
    intro fuel
    induction fuel with
    | zero =>
      intro listed a w _ _ hr hy hS H
      refine ⟨fun e => absurd (e ▸ hr) (by simp), fun j hj => ?_⟩
      by_cases hji : j = i
      · subst hji
        exact hy.wpOp hi hS ⟨.inr hS, H⟩
      · exact absurd (H.1 ▸ ready_mono hj hji) (by simp)
    | succ fuel ih =>
      intro listed a w hwait hfree hr hy hS H
      refine ⟨fun e => absurd (e ▸ hr) (by simp), fun j hj => ?_⟩
      by_cases hji : j = i
      · subst hji
        exact hy.wpOp hi hS ⟨.inr hS, H⟩
      · obtain ⟨hjun, oj, hoj, hall⟩ := mem_ready.1 hj
        have hno : ∀ e ∈ oj.after, Region.binds md e = true → e.on ≠ i := fun e he hb heq => by
          have h1 := hall e he hb
          have h0 := (mem_ready.1 hr).1
          rw [heq] at h1
          by_cases hlt : i < listed.size
          · simp [Array.getD, hlt] at h0 h1
            rw [h0] at h1
            cases h1
          · simp [Array.getD, hlt] at h0
        have hDj : D.contains j = false := by
          cases hc : D.contains j with
          | false => rfl
          | true =>
            obtain ⟨e, he, hb, heq⟩ := hwait j oj hc hjun hoj
            exact absurd heq (hno e he hb)
        refine wpOp_mono (fun b u k => ?_) (wpOp_putIf hoj (hfree j oj hoj hji hjun hno) (fun cs b => hsel i oi cs b hi) (fun cs b => hsel j oj cs b hoj) hQ hy (H.2 j (ready_mono hj hji)))
        obtain ⟨hyk, hSk, hk⟩ := k
        have hSu : S u := hSk.resolve_left (by rw [hDj]; simp)
        refine ⟨.inr hSu, ih (listed.setIfInBounds j true) b u (fun k ok hk hun' ho => hwait k ok hk ?_ ho) (fun k ok hk hki hun' hno' => hfree k ok hk hki ?_ hno') (ready_mono hr (Ne.symm hji)) hyk hSu ?_⟩
        · by_cases hjk : j = k
          · subst hjk
            exact hjun
          · rwa [getD_set_ne true hjk] at hun'
        · by_cases hjk : j = k
          · subst hjk
            exact hjun
          · rwa [getD_set_ne true hjk] at hun'
        · rw [Array.setIfInBounds_comm _ _ hji]
          exact hk
  exact main fuel listed a w (fun j oj hj hun ho => waits_spec hd hj hun ho) (Region.free_spec hi hf) (by simpa using hr) hy hS h
/-- One of D that yields its value in whatever world: S is asked neither of the world at hand nor behind it. -/
theorem wpAnyU_pure {i : Nat} {oi : Oper} {v : Value} {fuel : Nat} {listed : Array Bool} {a : Act} {w : World} (hi : ops[i]? = some oi) (hs : Region.noSelect ops = true)
    (hf : Region.free md ops listed i = true) (hr : (Region.ready md ops listed).contains i = true) (hd : D.contains i = true) (hQ : ∀ c a w, Q (.panic c) (a.put oi.dst v) w → Q (.panic c) a w)
    (hy : YieldsIf P ops (fun _ => True) oi v a) (h : wpAnyU P md ops Q S D fuel (listed.setIfInBounds i true) (a.put oi.dst v) w) : wpAnyU P md ops Q S D (fuel + 1) listed a w := by
  have hsel := Region.noSelect_spec hs
  have main : ∀ (fuel : Nat) (listed : Array Bool) (a : Act) (w : World),
      (∀ j oj, ops[j]? = some oj → j ≠ i → listed.getD j true = false → (∀ e ∈ oj.after, Region.binds md e = true → e.on ≠ i) → oi.apart ops oj = true) →
      i ∈ Region.ready md ops listed → YieldsIf P ops (fun _ => True) oi v a → wpAnyU P md ops Q S D fuel (listed.setIfInBounds i true) (a.put oi.dst v) w → wpAnyU P md ops Q S D (fuel + 1) listed a w := by
    intro fuel
    induction fuel with
    | zero =>
      intro listed a w _ hr hy H
      refine ⟨fun e => absurd (e ▸ hr) (by simp), fun j hj => ?_⟩
      by_cases hji : j = i
      · subst hji
        exact hy.wpOp hi trivial ⟨.inl hd, H⟩
      · exact absurd (H.1 ▸ ready_mono hj hji) (by simp)
    | succ fuel ih =>
      intro listed a w hfree hr hy H
      refine ⟨fun e => absurd (e ▸ hr) (by simp), fun j hj => ?_⟩
      by_cases hji : j = i
      · subst hji
        exact hy.wpOp hi trivial ⟨.inl hd, H⟩
      · obtain ⟨hjun, oj, hoj, hall⟩ := mem_ready.1 hj
        have hno : ∀ e ∈ oj.after, Region.binds md e = true → e.on ≠ i := fun e he hb heq => by
          have h1 := hall e he hb
          have h0 := (mem_ready.1 hr).1
          rw [heq] at h1
          by_cases hlt : i < listed.size
          · simp [Array.getD, hlt] at h0 h1
            rw [h0] at h1
            cases h1
          · simp [Array.getD, hlt] at h0
        refine wpOp_mono (fun b u k => ?_) (wpOp_putIf hoj (hfree j oj hoj hji hjun hno) (fun cs b => hsel i oi cs b hi) (fun cs b => hsel j oj cs b hoj) hQ hy (H.2 j (ready_mono hj hji)))
        obtain ⟨hyk, hSk, hk⟩ := k
        refine ⟨hSk, ih (listed.setIfInBounds j true) b u (fun k ok hk hki hun' hno' => hfree k ok hk hki ?_ hno') (ready_mono hr (Ne.symm hji)) hyk ?_⟩
        · by_cases hjk : j = k
          · subst hjk
            exact hjun
          · rwa [getD_set_ne true hjk] at hun'
        · rw [Array.setIfInBounds_comm _ _ hji]
          exact hk
  exact main fuel listed a w (Region.free_spec hi hf) (by simpa using hr) hy h
theorem wpAnyU_done {listed : Array Bool} {a : Act} {w : World} (hr : Region.ready md ops listed = []) (h : Q .normal a w) : ∀ fuel, wpAnyU P md ops Q S D fuel listed a w
  | 0 => ⟨hr, h⟩
  | _ + 1 => ⟨fun _ => h, by rw [hr]; simp⟩
def AllReadyU (P : Program) (md : Region.Mode) (ops : Array Oper) (Q : Exit → Act → World → Prop) (S : World → Prop) (D : List Nat) (fuel : Nat) (listed : Array Bool) (a : Act) (w : World) (rs : List Nat) : Prop :=
  ∀ i ∈ rs, wpOp P ops Q i (fun b u => (D.contains i = true ∨ S u) ∧ wpAnyU P md ops Q S D fuel (listed.setIfInBounds i true) b u) a w
theorem AllReadyU.nil {fuel : Nat} {listed : Array Bool} {a : Act} {w : World} : AllReadyU P md ops Q S D fuel listed a w [] := fun _ h => by cases h
/-- One that comes up, S being shown anew behind it. -/
theorem AllReadyU.cons {fuel : Nat} {listed : Array Bool} {a : Act} {w : World} {i : Nat} {o : Oper} {rs : List Nat} (ho : ops[i]? = some o)
    (h : ∀ K' : Act → World → Prop, Shut (∀ b u, S u → (S u → wpAnyU P md ops Q S D fuel (listed.setIfInBounds i true) b u) → K' b u) → if Region.wanted o (yielded ops a.tmps) = true then Oper.wp P o a w K' Q else K' (a.put o.dst undef) w)
    (hs : AllReadyU P md ops Q S D fuel listed a w rs) : AllReadyU P md ops Q S D fuel listed a w (i :: rs) := fun j hj => by
  rcases List.mem_cons.1 hj with rfl | hj
  · exact wpOp_step ho (fun K' hK => h K' (fun b u hS hW => hK b u ⟨.inr hS, hW hS⟩))
  · exact hs j hj
/-- One of D that comes up: S is not asked behind it. -/
theorem AllReadyU.last {fuel : Nat} {listed : Array Bool} {a : Act} {w : World} {i : Nat} {o : Oper} {rs : List Nat} (ho : ops[i]? = some o) (hD : D.contains i = true)
    (h : ∀ K' : Act → World → Prop, Shut (∀ b u, wpAnyU P md ops Q S D fuel (listed.setIfInBounds i true) b u → K' b u) → if Region.wanted o (yielded ops a.tmps) = true then Oper.wp P o a w K' Q else K' (a.put o.dst undef) w)
    (hs : AllReadyU P md ops Q S D fuel listed a w rs) : AllReadyU P md ops Q S D fuel listed a w (i :: rs) := fun j hj => by
  rcases List.mem_cons.1 hj with rfl | hj
  · exact wpOp_step ho (fun K' hK => h K' (fun b u hW => hK b u ⟨.inl hD, hW⟩))
  · exact hs j hj
theorem wpAnyU_ready {rs : List Nat} {fuel : Nat} {listed : Array Bool} {a : Act} {w : World} (hr : Region.ready md ops listed = rs) (hne : rs ≠ []) (h : AllReadyU P md ops Q S D fuel listed a w rs) :
    wpAnyU P md ops Q S D (fuel + 1) listed a w := ⟨fun e => absurd (hr ▸ e) hne, hr ▸ h⟩
/-- How many have not come up. -/
def left (l : Array Bool) : Nat := l.toList.count false
theorem count_set : ∀ (l : List Bool) (i : Nat), l[i]? = some false → (l.set i true).count false + 1 = l.count false
  | [], _, h => by simp at h
  | x :: l, 0, h => by
    obtain rfl : x = false := by simpa using h
    simp
  | x :: l, i + 1, h => by
    have := count_set l i (by simpa using h)
    rw [List.set_cons_succ, List.count_cons, List.count_cons]
    omega
theorem left_set {l : Array Bool} {i : Nat} (h : l.getD i true = false) : left (l.setIfInBounds i true) + 1 = left l := by
  unfold left
  rw [Array.toList_setIfInBounds]
  refine count_set _ _ ?_
  rw [Array.getElem?_toList]
  rw [Array.getD_eq_getD_getElem?] at h
  cases hi : l[i]? with
  | none => rw [hi] at h; cases h
  | some b => rw [hi] at h; exact congrArg some h
/-- A region whose operations come up in so many orders that one cannot go through them: what holds behind those that have come up, whichever they are, till those of lE have. -/
theorem wpAnyU_inv (lE : Array Bool) (I : Array Bool → Act → World → Prop) (hS : ∀ l a w, I l a w → S w) (hstep : ∀ l a w i, I l a w → l ≠ lE → i ∈ Region.ready md ops l → wpOp P ops Q i (fun b u => I (l.setIfInBounds i true) b u) a w)
    (hne : ∀ l a w, I l a w → l ≠ lE → Region.ready md ops l ≠ []) (hend : ∀ k a w, I lE a w → wpAnyU P md ops Q S D (k + left lE) lE a w) : ∀ (fuel : Nat) (l : Array Bool) (a : Act) (w : World), left l ≤ fuel → I l a w → wpAnyU P md ops Q S D fuel l a w
  | fuel, l, a, w, hl, hI => by
    by_cases hlr : l = lE
    · subst hlr
      have := hend (fuel - left l) a w hI
      rwa [show fuel - left l + left l = fuel by omega] at this
    · cases fuel with
      | zero =>
        cases hr : Region.ready md ops l with
        | nil => exact absurd hr (hne l a w hI hlr)
        | cons j r =>
          have := left_set (mem_ready.1 (hr ▸ List.mem_cons_self : j ∈ Region.ready md ops l)).1
          omega
      | succ fuel => exact ⟨fun e => absurd e (hne l a w hI hlr), fun i hi => wpOp_mono (fun b u k => ⟨.inr (hS _ _ _ k), wpAnyU_inv lE I hS hstep hne hend fuel _ b u (by have := left_set (mem_ready.1 hi).1; omega) k⟩) (hstep l a w i hI hlr hi)⟩
theorem ready_dep {l : Array Bool} {i : Nat} {o : Oper} (h : i ∈ Region.ready md ops l) (ho : ops[i]? = some o) (k : Nat) (hk : (o.after.any fun e => Region.binds md e && e.on == k) = true) : l.getD k false = true := by
  obtain ⟨_, o', ho', hall⟩ := mem_ready.1 h
  obtain rfl : o = o' := Option.some.inj (ho.symm.trans ho')
  simp only [Array.any_eq_true', Bool.and_eq_true, beq_iff_eq] at hk
  obtain ⟨e, he, hb, rfl⟩ := hk
  exact hall e he hb
theorem ready_nil {l : Array Bool} {i : Nat} {o : Oper} (h : Region.ready md ops l = []) (hl : l.getD i true = false) (ho : ops[i]? = some o) (ha : (o.after.all fun e => l.getD e.on false) = true) : False := by
  have : i ∈ Region.ready md ops l := mem_ready.2 ⟨hl, o, ho, fun e he _ => by
    rw [Array.all_eq_true_iff_forall_mem] at ha
    exact ha e he⟩
  rw [h] at this
  cases this
/-- S may grow on the way. -/
theorem wpAnyU_more {S2 : World → Prop} (hS : ∀ w, S2 w → S w) : ∀ (fuel : Nat) (listed : Array Bool) (a : Act) (w : World), wpAnyU P md ops Q S2 D fuel listed a w → wpAnyU P md ops Q S D fuel listed a w
  | 0, _, _, _, h => h
  | fuel + 1, _, _, _, h => ⟨h.1, fun i hi => wpOp_mono (fun b u k => ⟨k.1.imp id (hS _), wpAnyU_more hS fuel _ b u k.2⟩) (h.2 i hi)⟩
end
/-- The beginning of a region that draws. -/
theorem wp_region_drewU {P : Program} {ops : Array Oper} {Q : Exit → Act → World → Prop} (S : World → Prop) (D : List Nat) {id : Nat} {a : Act} {w : World} (hm : P.follows .mixedOrders = true) (hS : S w.drew)
    (h : S w.drew → wpAnyU P .any ops Q S D ops.size (Array.replicate ops.size false) a w.drew) : (Code.region id ops true).wp P Q a w :=
  wp_region_any hm (wpAnyU_any _ _ _ _ (h hS))
end Go.Proofs.Ytnhajhejkecihaa
