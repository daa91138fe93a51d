/- Regions that draw their order, where loads are taken first and the operations that wait for all of them (a last store) may turn what they read: a condition on the world that holds till those come up. -/
import Derived.Test.YtnhajhejkecihaaDoorMA
import Derived.Deep.RegionHeld3
import Derived.Deep.Cut
import Derived.StillTailTactics
import Derived.Laws.CopyRow
import Derived.Deep.RegionLaw
import Derived.Laws.OwnMore
import Derived.Lib.SliceRun
namespace Go.Proofs.YtnhajhejkecihaaDoor
open Go.RowKit
set_option linter.unusedVariables false

section
variable {P : Program} {md : Region.Mode} {ops : Array Oper} {Q : Exit → Act → World → Prop} {S : World → Prop} {D : List Nat}
/-- Whatever comes up next; behind it S holds, unless it is one of D. -/
def wpAnyU (P : Program) (md : Region.Mode) (ops : Array Oper) (Q : Exit → Act → World → Prop) (S : World → Prop) (D : List Nat) : Nat → Array Bool → Act → World → Prop
  | 0, listed, a, w => Region.ready md ops listed = [] ∧ Q .normal a w
  | fuel + 1, listed, a, w => (Region.ready md ops listed = [] → Q .normal a w) ∧
      ∀ i ∈ Region.ready md ops listed, wpOp P ops Q i (fun b u => (D.contains i = true ∨ S u) ∧ wpAnyU P md ops Q S D fuel (listed.setIfInBounds i true) b u) a w
theorem wpAnyU_any : ∀ (fuel : Nat) (listed : Array Bool) (a : Act) (w : World), wpAnyU P md ops Q S D fuel listed a w → wpAny P md ops Q fuel listed a w
  | 0, _, _, _, h => h
  | fuel + 1, _, _, _, h => ⟨h.1, fun i hi => wpOp_mono (fun b u k => wpAnyU_any fuel _ b u k.2) (h.2 i hi)⟩
/-- All of D that have not come up wait for i. -/
def waits (md : Region.Mode) (ops : Array Oper) (listed : Array Bool) (D : List Nat) (i : Nat) : Bool := D.all fun j => listed.getD j true || match ops[j]? with
  | some o => o.after.any fun e => Region.binds md e && e.on == i
  | none => true
theorem waits_spec {i j : Nat} {o : Oper} {listed : Array Bool} (h : waits md ops listed D i = true) (hj : D.contains j = true) (hun : listed.getD j true = false) (ho : ops[j]? = some o) : ∃ e ∈ o.after, Region.binds md e = true ∧ e.on = i := by
  have h1 := List.all_eq_true.1 h j (by simpa using hj)
  simp only [ho, hun, Bool.false_or, Array.any_eq_true', Bool.and_eq_true, beq_iff_eq] at h1
  exact h1
theorem wpAnyU_take {i : Nat} {oi : Oper} {v : Value} {fuel : Nat} {listed : Array Bool} {a : Act} {w : World} (hi : ops[i]? = some oi) (hs : Region.noSelect ops = true)
    (hf : Region.free md ops listed i = true) (hr : (Region.ready md ops listed).contains i = true) (hd : waits md ops listed D i = true) (hQ : ∀ c a w, Q (.panic c) (a.put oi.dst v) w → Q (.panic c) a w)
    (hy : YieldsIf P ops S oi v a) (hS : S w) (h : wpAnyU P md ops Q S D fuel (listed.setIfInBounds i true) (a.put oi.dst v) w) : wpAnyU P md ops Q S D (fuel + 1) listed a w := by
  have hsel := Region.noSelect_spec hs
  have main : ∀ (fuel : Nat) (listed : Array Bool) (a : Act) (w : World),
      (∀ j oj, D.contains j = true → listed.getD j true = false → ops[j]? = some oj → ∃ e ∈ oj.after, Region.binds md e = true ∧ e.on = i) →
      (∀ j oj, ops[j]? = some oj → j ≠ i → listed.getD j true = false → (∀ e ∈ oj.after, Region.binds md e = true → e.on ≠ i) → oi.apart ops oj = true) →
      i ∈ Region.ready md ops listed → YieldsIf P ops S oi v a → S w → wpAnyU P md ops Q S D fuel (listed.setIfInBounds i true) (a.put oi.dst v) w → wpAnyU P md ops Q S D (fuel + 1) listed a w := by
    intro fuel
    induction fuel with
    | zero =>
      intro listed a w _ _ hr hy hS H
      refine ⟨fun e => absurd (e ▸ hr) (by simp), fun j hj => ?_⟩
      by_cases hji : j = i
      · subst hji
        exact hy.wpOp hi hS ⟨.inr hS, H⟩
      · exact absurd (H.1 ▸ ready_mono hj hji) (by simp)
    | succ fuel ih =>
      intro listed a w hwait hfree hr hy hS H
      refine ⟨fun e => absurd (e ▸ hr) (by simp), fun j hj => ?_⟩
      by_cases hji : j = i
      · subst hji
        exact hy.wpOp hi hS ⟨.inr hS, H⟩
      · obtain ⟨hjun, oj, hoj, hall⟩ := mem_ready.1 hj
        have hno : ∀ e ∈ oj.after, Region.binds md e = true → e.on ≠ i := fun e he hb heq => by
          have h1 := hall e he hb
          have h0 := (mem_ready.1 hr).1
          rw [heq] at h1
          by_cases hlt : i < listed.size
          · simp [Array.getD, hlt] at h0 h1
            rw [h0] at h1
            cases h1
          · simp [Array.getD, hlt] at h0
        have hDj : D.contains j = false := by
          cases hc : D.contains j with
          | false => rfl
          | true =>
            obtain ⟨e, he, hb, heq⟩ := hwait j oj hc hjun hoj
            exact absurd heq (hno e he hb)
        refine wpOp_mono (fun b u k => ?_) (wpOp_putIf hoj (hfree j oj hoj hji hjun hno) (fun cs b => hsel i oi cs b hi) (fun cs b => hsel j oj cs b hoj) hQ hy (H.2 j (ready_mono hj hji)))
        obtain ⟨hyk, hSk, hk⟩ := k
        have hSu : S u := hSk.resolve_left (by rw [hDj]; simp)
        refine ⟨.inr hSu, ih (listed.setIfInBounds j true) b u (fun k ok hk hun' ho => hwait k ok hk ?_ ho) (fun k ok hk hki hun' hno' => hfree k ok hk hki ?_ hno') (ready_mono hr (Ne.symm hji)) hyk hSu ?_⟩
        · by_cases hjk : j = k
          · subst hjk
            exact hjun
          · rwa [getD_set_ne true hjk] at hun'
        · by_cases hjk : j = k
          · subst hjk
            exact hjun
          · rwa [getD_set_ne true hjk] at hun'
        · rw [Array.setIfInBounds_comm _ _ hji]
          exact hk
  exact main fuel listed a w (fun j oj hj hun ho => waits_spec hd hj hun ho) (Region.free_spec hi hf) (by simpa using hr) hy hS h
/-- One of D that yields its value in whatever world: S is asked neither of the world at hand nor behind it. -/
theorem wpAnyU_pure {i : Nat} {oi : Oper} {v : Value} {fuel : Nat} {listed : Array Bool} {a : Act} {w : World} (hi : ops[i]? = some oi) (hs : Region.noSelect ops = true)
    (hf : Region.free md ops listed i = true) (hr : (Region.ready md ops listed).contains i = true) (hd : D.contains i = true) (hQ : ∀ c a w, Q (.panic c) (a.put oi.dst v) w → Q (.panic c) a w)
    (hy : YieldsIf P ops (fun _ => True) oi v a) (h : wpAnyU P md ops Q S D fuel (listed.setIfInBounds i true) (a.put oi.dst v) w) : wpAnyU P md ops Q S D (fuel + 1) listed a w := by
  have hsel := Region.noSelect_spec hs
  have main : ∀ (fuel : Nat) (listed : Array Bool) (a : Act) (w : World),
      (∀ j oj, ops[j]? = some oj → j ≠ i → listed.getD j true = false → (∀ e ∈ oj.after, Region.binds md e = true → e.on ≠ i) → oi.apart ops oj = true) →
      i ∈ Region.ready md ops listed → YieldsIf P ops (fun _ => True) oi v a → wpAnyU P md ops Q S D fuel (listed.setIfInBounds i true) (a.put oi.dst v) w → wpAnyU P md ops Q S D (fuel + 1) listed a w := by
    intro fuel
    induction fuel with
    | zero =>
      intro listed a w _ hr hy H
      refine ⟨fun e => absurd (e ▸ hr) (by simp), fun j hj => ?_⟩
      by_cases hji : j = i
      · subst hji
        exact hy.wpOp hi trivial ⟨.inl hd, H⟩
      · exact absurd (H.1 ▸ ready_mono hj hji) (by simp)
    | succ fuel ih =>
      intro listed a w hfree hr hy H
      refine ⟨fun e => absurd (e ▸ hr) (by simp), fun j hj => ?_⟩
      by_cases hji : j = i
      · subst hji
        exact hy.wpOp hi trivial ⟨.inl hd, H⟩
      · obtain ⟨hjun, oj, hoj, hall⟩ := mem_ready.1 hj
        have hno : ∀ e ∈ oj.after, Region.binds md e = true → e.on ≠ i := fun e he hb heq => by
          have h1 := hall e he hb
          have h0 := (mem_ready.1 hr).1
          rw [heq] at h1
          by_cases hlt : i < listed.size
          · simp [Array.getD, hlt] at h0 h1
            rw [h0] at h1
            cases h1
          · simp [Array.getD, hlt] at h0
        refine wpOp_mono (fun b u k => ?_) (wpOp_putIf hoj (hfree j oj hoj hji hjun hno) (fun cs b => hsel i oi cs b hi) (fun cs b => hsel j oj cs b hoj) hQ hy (H.2 j (ready_mono hj hji)))
        obtain ⟨hyk, hSk, hk⟩ := k
        refine ⟨hSk, ih (listed.setIfInBounds j true) b u (fun k ok hk hki hun' hno' => hfree k ok hk hki ?_ hno') (ready_mono hr (Ne.symm hji)) hyk ?_⟩
        · by_cases hjk : j = k
          · subst hjk
            exact hjun
          · rwa [getD_set_ne true hjk] at hun'
        · rw [Array.setIfInBounds_comm _ _ hji]
          exact hk
  exact main fuel listed a w (Region.free_spec hi hf) (by simpa using hr) hy h
theorem wpAnyU_done {listed : Array Bool} {a : Act} {w : World} (hr : Region.ready md ops listed = []) (h : Q .normal a w) : ∀ fuel, wpAnyU P md ops Q S D fuel listed a w
  | 0 => ⟨hr, h⟩
  | _ + 1 => ⟨fun _ => h, by rw [hr]; simp⟩
def AllReadyU (P : Program) (md : Region.Mode) (ops : Array Oper) (Q : Exit → Act → World → Prop) (S : World → Prop) (D : List Nat) (fuel : Nat) (listed : Array Bool) (a : Act) (w : World) (rs : List Nat) : Prop :=
  ∀ i ∈ rs, wpOp P ops Q i (fun b u => (D.contains i = true ∨ S u) ∧ wpAnyU P md ops Q S D fuel (listed.setIfInBounds i true) b u) a w
theorem AllReadyU.nil {fuel : Nat} {listed : Array Bool} {a : Act} {w : World} : AllReadyU P md ops Q S D fuel listed a w [] := fun _ h => by cases h
/-- One that comes up, S being shown anew behind it. -/
theorem AllReadyU.cons {fuel : Nat} {listed : Array Bool} {a : Act} {w : World} {i : Nat} {o : Oper} {rs : List Nat} (ho : ops[i]? = some o)
    (h : ∀ K' : Act → World → Prop, Shut (∀ b u, S u → (S u → wpAnyU P md ops Q S D fuel (listed.setIfInBounds i true) b u) → K' b u) → if Region.wanted o (yielded ops a.tmps) = true then Oper.wp P o a w K' Q else K' (a.put o.dst undef) w)
    (hs : AllReadyU P md ops Q S D fuel listed a w rs) : AllReadyU P md ops Q S D fuel listed a w (i :: rs) := fun j hj => by
  rcases List.mem_cons.1 hj with rfl | hj
  · exact wpOp_step ho (fun K' hK => h K' (fun b u hS hW => hK b u ⟨.inr hS, hW hS⟩))
  · exact hs j hj
/-- One of D that comes up: S is not asked behind it. -/
theorem AllReadyU.last {fuel : Nat} {listed : Array Bool} {a : Act} {w : World} {i : Nat} {o : Oper} {rs : List Nat} (ho : ops[i]? = some o) (hD : D.contains i = true)
    (h : ∀ K' : Act → World → Prop, Shut (∀ b u, wpAnyU P md ops Q S D fuel (listed.setIfInBounds i true) b u → K' b u) → if Region.wanted o (yielded ops a.tmps) = true then Oper.wp P o a w K' Q else K' (a.put o.dst undef) w)
    (hs : AllReadyU P md ops Q S D fuel listed a w rs) : AllReadyU P md ops Q S D fuel listed a w (i :: rs) := fun j hj => by
  rcases List.mem_cons.1 hj with rfl | hj
  · exact wpOp_step ho (fun K' hK => h K' (fun b u hW => hK b u ⟨.inl hD, hW⟩))
  · exact hs j hj
theorem wpAnyU_ready {rs : List Nat} {fuel : Nat} {listed : Array Bool} {a : Act} {w : World} (hr : Region.ready md ops listed = rs) (hne : rs ≠ []) (h : AllReadyU P md ops Q S D fuel listed a w rs) :
    wpAnyU P md ops Q S D (fuel + 1) listed a w := ⟨fun e => absurd (hr ▸ e) hne, hr ▸ h⟩
/-- How many have not come up. -/
def left (l : Array Bool) : Nat := l.toList.count false
theorem count_set : ∀ (l : List Bool) (i : Nat), l[i]? = some false → (l.set i true).count false + 1 = l.count false
  | [], _, h => by simp at h
  | x :: l, 0, h => by
    obtain rfl : x = false := by simpa using h
    simp
  | x :: l, i + 1, h => by
    have := count_set l i (by simpa using h)
    rw [List.set_cons_succ, List.count_cons, List.count_cons]
    omega
theorem left_set {l : Array Bool} {i : Nat} (h : l.getD i true = false) : left (l.setIfInBounds i true) + 1 = left l := by
  unfold left
  rw [Array.toList_setIfInBounds]
  refine count_set _ _ ?_
  rw [Array.getElem?_toList]
  rw [Array.getD_eq_getD_getElem?] at h
  cases hi : l[i]? with
  | none => rw [hi] at h; cases h
  | some b => rw [hi] at h; exact congrArg some h
/-- A region whose operations come up in so many orders that one cannot go through them: what holds behind those that have come up, whichever they are, till those of lE have. -/
theorem wpAnyU_inv (lE : Array Bool) (I : Array Bool → Act → World → Prop) (hS : ∀ l a w, I l a w → S w) (hstep : ∀ l a w i, I l a w → l ≠ lE → i ∈ Region.ready md ops l → wpOp P ops Q i (fun b u => I (l.setIfInBounds i true) b u) a w)
    (hne : ∀ l a w, I l a w → l ≠ lE → Region.ready md ops l ≠ []) (hend : ∀ k a w, I lE a w → wpAnyU P md ops Q S D (k + left lE) lE a w) : ∀ (fuel : Nat) (l : Array Bool) (a : Act) (w : World), left l ≤ fuel → I l a w → wpAnyU P md ops Q S D fuel l a w
  | fuel, l, a, w, hl, hI => by
    by_cases hlr : l = lE
    · subst hlr
      have := hend (fuel - left l) a w hI
      rwa [show fuel - left l + left l = fuel by omega] at this
    · cases fuel with
      | zero =>
        cases hr : Region.ready md ops l with
        | nil => exact absurd hr (hne l a w hI hlr)
        | cons j r =>
          have := left_set (mem_ready.1 (hr ▸ List.mem_cons_self : j ∈ Region.ready md ops l)).1
          omega
      | succ fuel => exact ⟨fun e => absurd e (hne l a w hI hlr), fun i hi => wpOp_mono (fun b u k => ⟨.inr (hS _ _ _ k), wpAnyU_inv lE I hS hstep hne hend fuel _ b u (by have := left_set (mem_ready.1 hi).1; omega) k⟩) (hstep l a w i hI hlr hi)⟩
theorem ready_dep {l : Array Bool} {i : Nat} {o : Oper} (h : i ∈ Region.ready md ops l) (ho : ops[i]? = some o) (k : Nat) (hk : (o.after.any fun e => Region.binds md e && e.on == k) = true) : l.getD k false = true := by
  obtain ⟨_, o', ho', hall⟩ := mem_ready.1 h
  obtain rfl : o = o' := Option.some.inj (ho.symm.trans ho')
  simp only [Array.any_eq_true', Bool.and_eq_true, beq_iff_eq] at hk
  obtain ⟨e, he, hb, rfl⟩ := hk
  exact hall e he hb
theorem ready_nil {l : Array Bool} {i : Nat} {o : Oper} (h : Region.ready md ops l = []) (hl : l.getD i true = false) (ho : ops[i]? = some o) (ha : (o.after.all fun e => l.getD e.on false) = true) : False := by
  have : i ∈ Region.ready md ops l := mem_ready.2 ⟨hl, o, ho, fun e he _ => by
    rw [Array.all_eq_true_iff_forall_mem] at ha
    exact ha e he⟩
  rw [h] at this
  cases this
/-- S may grow on the way. -/
theorem wpAnyU_more {S2 : World → Prop} (hS : ∀ w, S2 w → S w) : ∀ (fuel : Nat) (listed : Array Bool) (a : Act) (w : World), wpAnyU P md ops Q S2 D fuel listed a w → wpAnyU P md ops Q S D fuel listed a w
  | 0, _, _, _, h => h
  | fuel + 1, _, _, _, h => ⟨h.1, fun i hi => wpOp_mono (fun b u k => ⟨k.1.imp id (hS _), wpAnyU_more hS fuel _ b u k.2⟩) (h.2 i hi)⟩
end
/-- The beginning of a region that draws. -/
theorem wp_region_drewU {P : Program} {ops : Array Oper} {Q : Exit → Act → World → Prop} (S : World → Prop) (D : List Nat) {id : Nat} {a : Act} {w : World} (hm : P.follows .mixedOrders = true) (hS : S w.drew)
    (h : S w.drew → wpAnyU P .any ops Q S D ops.size (Array.replicate ops.size false) a w.drew) : (Code.region id ops true).wp P Q a w :=
  wp_region_any hm (wpAnyU_any _ _ _ _ (h hS))
end Go.Proofs.YtnhajhejkecihaaDoor
/- Install: Enter. -/
namespace Go.Proofs.YtnhajhejkecihaaDoor
open Go.RowKit Go.Lib
set_option linter.unusedVariables false
set_option linter.unusedSimpArgs false

theorem owedS_nat (l : List Bool) (c : Nat) : owedS l (c : Int) = l.getD c false := by simp [owedS]
/-- Behind a Fetch of what a processor does not owe the caches do not lie. -/
theorem Coh.fetched {s : MS} {M : Bytes} {fs : List Cache} (h : Coh s M fs) (c a m : Nat) : Coh s M (fs.set c (fill M a m (fs.getD c (fun _ => none)))) := by
  refine ⟨by rw [List.length_set]; exact h.len, h.mem, fun d hd e he ho k h1 h2 => ?_⟩
  rw [List.length_set] at hd
  by_cases hcd : c = d
  · subst hcd
    rw [getD_set_self _ _ _ _ hd]
    unfold fill
    split
    · exact .inr rfl
    · exact h.cache c hd e he ho k h1 h2
  · rw [getD_set_ne' _ _ _ _ _ hcd]
    exact h.cache d hd e he ho k h1 h2
set_option maxRecDepth 100000 in
set_option maxHeartbeats 4000000 in
theorem enter_none {n : Nat} {w : World} {p : Nat} {r : SR} {s : MS} (h : IsStore n w p r s) {c : Nat} (hc : c < s.inn.length) (id : Int) (hf : s.find id = none) : Calls Tryd.prog 16 #[.pointer (some ⟨p, 0, none⟩), .int .i64 c, .int .i64 id] w fun e w' => e = .returned (.tuple #[.string ⟨#[]⟩, .int .i64 14]) ∧ w = w' := by
  have HC := Lib.hid (closed_any h)
  have HP := Lib.hid (cpu_any h c hc)
  have HF := Lib.hid (find_any h id)
  rw [hf] at HF
  change Hid (Calls _ _ _ _ fun e w' => e = Ending.returned (Value.pointer none) ∧ _) at HF
  clear h hf
  go_enter Tryd.func16, Tryd.ntmps16
  go_wp2_with fail
  ((with_reducible refine HC.out.mono ?_); rintro e w' ⟨rfl, rfl⟩)
  go_wp2_with fail
  ((with_reducible refine HP.out.mono ?_); rintro e w' ⟨rfl, rfl⟩)
  go_wp2_with fail
  ((with_reducible refine HF.out.mono ?_); rintro e w' ⟨rfl, rfl⟩)
  clear HC HP HF
  go_wp2_with fail
  go_ret2
  exact ⟨rfl, rfl⟩
/-- What is known of an entry that was found. -/
theorem found_at {s : MS} {id : Int} {i : Nat} (h : s.find id = some i) : i < s.all.length ∧ ((s.all.getD i ME.dflt).id : Int) = id ∧ (s.all.getD i ME.dflt).dropped = false := by
  unfold MS.find at h
  rw [List.findIdx?_eq_some_iff_getElem] at h
  obtain ⟨hi, h1, _⟩ := h
  simp only [Bool.and_eq_true, beq_iff_eq, Bool.not_eq_true'] at h1
  rw [List.getD_eq_getElem?_getD, List.getElem?_eq_getElem hi]
  exact ⟨hi, h1.1, h1.2⟩
set_option maxRecDepth 100000 in
set_option maxHeartbeats 4000000 in
theorem enter_stale {n : Nat} {w : World} {p : Nat} {r : SR} {s : MS} (h : IsStore n w p r s) {c : Nat} (hc : c < s.inn.length) (id : Int) {i : Nat} (hf : s.find id = some i) (hin : s.inn.getD c 0 < 0) (ho : (s.all.getD i ME.dflt).owed.getD c false = true) :
    Calls Tryd.prog 16 #[.pointer (some ⟨p, 0, none⟩), .int .i64 c, .int .i64 id] w fun e w' => e = .returned (.tuple #[.string ⟨#[]⟩, .int .i64 40]) ∧ w = w' := by
  have HC := Lib.hid (closed_any h)
  have HP := Lib.hid (cpu_any h c hc)
  have HF := Lib.hid (find_any h id)
  rw [hf] at HF
  obtain ⟨hi, _, _⟩ := found_at hf
  obtain ⟨eb, heb⟩ : ∃ eb, r.es.getD i 0 = eb := ⟨_, rfl⟩
  change Hid (Calls _ _ _ _ fun e w' => e = Ending.returned (Value.pointer (some ⟨r.es.getD i 0, 0, none⟩)) ∧ _) at HF
  have e12 := h.ecell hi 12
  have hfb := (h.ents i hi).2
  rw [heb] at HF e12
  obtain ⟨o, hoo⟩ : ∃ o, r.os.getD i 0 = o := ⟨_, rfl⟩
  rw [hoo] at e12 hfb
  have e12' : w.cell? ⟨eb, 12, none⟩ = some (.map (some o)) := e12
  have hl := hfb.look Tryd.underlying3 Tryd.underlying71 Tryd.underlying4 (by kernel_rfl) (i := (c : Int)) (wf64 (by have := h.inv.cpus; omega))
  rw [owedS_nat, ho] at hl
  have c1 := h.c1
  obtain ⟨q0, _⟩ := h.innc hc
  obtain ⟨v, hv⟩ : ∃ v, s.inn.getD c 0 = v := ⟨_, rfl⟩
  rw [hv] at q0 hin
  have hb : decide (c < s.inn.length) = true := by simpa using hc
  have hneg : decide (0 ≤ v) = false := by simp; omega
  clear h hv hf hi heb hoo e12 hfb ho
  go_enter Tryd.func16, Tryd.ntmps16
  go_wp2_with fail
  ((with_reducible refine HC.out.mono ?_); rintro e w' ⟨rfl, rfl⟩)
  go_wp2_with fail
  ((with_reducible refine HP.out.mono ?_); rintro e w' ⟨rfl, rfl⟩)
  go_wp2_with fail
  ((with_reducible refine HF.out.mono ?_); rintro e w' ⟨rfl, rfl⟩)
  clear HC HP HF
  go_wp2_with fail
  go_ret2
  exact ⟨rfl, rfl⟩
set_option maxRecDepth 100000 in
set_option maxHeartbeats 8000000 in
theorem enter_ok {n : Nat} {w : World} {p : Nat} {r : SR} {s : MS} (h : IsStore n w p r s) {c : Nat} (hc : c < s.inn.length) (id : Int) {i : Nat} (hf : s.find id = some i) (hin : s.inn.getD c 0 < 0) (ho : (s.all.getD i ME.dflt).owed.getD c false = false) :
    Calls Tryd.prog 16 #[.pointer (some ⟨p, 0, none⟩), .int .i64 c, .int .i64 id] w fun e w' => e = .returned (.tuple #[.string (sb (s.all.getD i ME.dflt).bytes), .int .i64 0]) ∧ IsStore n w' p r (s.left c id) ∧ Keep (r.foot p) w w' := by
  have HC := Lib.hid (closed_any h)
  have HP := Lib.hid (cpu_any h c hc)
  have HF := Lib.hid (find_any h id)
  rw [hf] at HF
  obtain ⟨hi, hid, _⟩ := found_at hf
  obtain ⟨eb, heb⟩ : ∃ eb, r.es.getD i 0 = eb := ⟨_, rfl⟩
  change Hid (Calls _ _ _ _ fun e w' => e = Ending.returned (Value.pointer (some ⟨r.es.getD i 0, 0, none⟩)) ∧ _) at HF
  have hmem : s.all.getD i ME.dflt ∈ s.all := getD_mem hi
  obtain ⟨e, he⟩ : ∃ e, s.all.getD i ME.dflt = e := ⟨_, rfl⟩
  have e12 := h.ecell hi 12
  have hfb := (h.ents i hi).2
  rw [heb] at HF e12
  obtain ⟨o, hoo⟩ : ∃ o, r.os.getD i 0 = o := ⟨_, rfl⟩
  rw [hoo] at e12 hfb
  have e12' : w.cell? ⟨eb, 12, none⟩ = some (.map (some o)) := e12
  have hl := hfb.look Tryd.underlying3 Tryd.underlying71 Tryd.underlying4 (by kernel_rfl) (i := (c : Int)) (wf64 (by have := h.inv.cpus; omega))
  rw [owedS_nat, ho] at hl
  rw [he] at hmem ho hid
  rw [he]
  have HIE := Lib.hid (And.intro hi (And.intro heb he))
  have c1 := h.c1
  obtain ⟨q0, q1⟩ := h.innc hc
  have hids := h.inv.ids e hmem
  have T1 := h.turnInn hc id (by omega)
  have K1 : Keep (r.foot p) w (w.setCell ⟨r.ib, c, none⟩ (.int .i64 id)) := Keep.mono (keep_set (Keep.refl (fun i => i = r.ib) w) c (.int .i64 id)) (fun k e => .inr (.inr (.inl e)))
  have hE1 : (w.setCell ⟨r.ib, c, none⟩ (.int .i64 id)).cell? ⟨eb, 1, none⟩ = some (.int .i64 ((16 * e.a : Nat) : Int)) := by rw [← heb, ← he]; exact T1.ecell hi 1
  have hE4 : (w.setCell ⟨r.ib, c, none⟩ (.int .i64 id)).cell? ⟨eb, 4, none⟩ = some (.string (sb e.bytes)) := by rw [← heb, ← he]; exact T1.ecell hi 4
  have hP0 := T1.c0
  have hsz := h.inv.size e hmem
  have HT := Lib.hid (And.intro T1 (And.intro K1 (And.intro hmem (And.intro ho hsz))))
  obtain ⟨v, hv⟩ : ∃ v, s.inn.getD c 0 = v := ⟨_, rfl⟩
  rw [hv] at q0 hin
  have hb : decide (c < s.inn.length) = true := by simpa using hc
  have hneg : decide (0 ≤ v) = false := by simp; omega
  have hsb : (sb e.bytes).size = e.bytes.length := sb_size _
  clear h hv hf hi heb hoo e12 hfb ho he hmem hid hids T1 K1 hsz
  go_enter Tryd.func16, Tryd.ntmps16
  go_wp2_with fail
  ((with_reducible refine HC.out.mono ?_); rintro ee w' ⟨rfl, rfl⟩)
  go_wp2_with fail
  ((with_reducible refine HP.out.mono ?_); rintro ee w' ⟨rfl, rfl⟩)
  go_wp2_with fail
  ((with_reducible refine HF.out.mono ?_); rintro ee w' ⟨rfl, rfl⟩)
  clear HC HP HF
  go_upto_region 11 with (fail)
  obtain ⟨W1, hW⟩ : ∃ W1, w.setCell ⟨r.ib, c, none⟩ (.int .i64 id) = W1 := ⟨_, rfl⟩
  rw [hW] at HT hE1 hE4 hP0
  rw [hW]
  clear hW q0 q1 c1 e12' hl
  obtain ⟨M, fs, hB, hco⟩ := HT.out.1.board
  have hcf : c < fs.length := by rw [hco.len]; simpa [MS.left] using hc
  have hFE := fetch_any (w := W1.drew) (hB.keep (keep_draw (fun _ => False) W1) (fun _ _ h => h)) c e.a e.bytes.length hcf HT.out.2.2.2.2.1 (by have := HT.out.2.2.2.2.2; unfold ME.stop lns at this; omega) (fun k h1 h2 => hco.cache c hcf e HT.out.2.2.1 HT.out.2.2.2.1 k h1 (by unfold ME.stop lns; omega))
  rw [hco.mem e HT.out.2.2.1] at hFE
  obtain ⟨a16, ha16⟩ : ∃ x, 16 * e.a = x := ⟨_, rfl⟩
  rw [ha16] at hFE
  have HFE := Lib.hid hFE
  have HEB := Lib.hid (And.intro HIE.out.1 (And.intro HIE.out.2.1 (And.intro HIE.out.2.2 ha16)))
  have HCO := Lib.hid (And.intro hB (And.intro hco hcf))
  clear hFE hB hco hcf ha16 hE1 hE4 hP0
  refine wp_region_drewU (S := (fun w' => Hid (IsStore n w' p r (s.left c id)))) (D := []) (by kernel_rfl) (by exact Lib.hid (HT.out.1.keep (keep_draw (fun _ => False) W1) (fun _ _ h => h))) (fun hH => ?_)
  refine wpAnyU_take (i := 0) (v := ?_) rfl (by kernel_rfl) (by kernel_rfl) (by kernel_rfl) (by kernel_rfl) (fun _ _ _ h => h) (Or.inl ⟨by rfl, ?_⟩) hH ?_
  rotate_left
  · (intro w'' hSw; (try dsimp only at hSw); go_simp; try with_reducible rfl)
  change wpAnyU _ _ _ _ _ _ _ _ (Act.put _ (some 46) _) _
  try simp only [Act.put, List.setIfInBounds_toArray, List.set_cons_zero, List.set_cons_succ]
  refine wpAnyU_take (i := 1) (v := ?_) rfl (by kernel_rfl) (by kernel_rfl) (by kernel_rfl) (by kernel_rfl) (fun _ _ _ h => h) (Or.inl ⟨by rfl, ?_⟩) hH ?_
  rotate_left
  · (intro w'' hSw; (try dsimp only at hSw); go_simp; try with_reducible rfl)
  change wpAnyU _ _ _ _ _ _ _ _ (Act.put _ (some 47) _) _
  try simp only [Act.put, List.setIfInBounds_toArray, List.set_cons_zero, List.set_cons_succ]
  refine wpAnyU_take (i := 2) (v := ?_) rfl (by kernel_rfl) (by kernel_rfl) (by kernel_rfl) (by kernel_rfl) (fun _ _ _ h => h) (Or.inl ⟨by rfl, ?_⟩) hH ?_
  rotate_left
  · (intro w'' hSw; (try dsimp only at hSw); go_simp; try with_reducible rfl)
  change wpAnyU _ _ _ _ _ _ _ _ (Act.put _ (some 48) _) _
  try simp only [Act.put, List.setIfInBounds_toArray, List.set_cons_zero, List.set_cons_succ]
  refine wpAnyU_take (i := 3) (v := ?_) rfl (by kernel_rfl) (by kernel_rfl) (by kernel_rfl) (by kernel_rfl) (fun _ _ _ h => h) (Or.inl ⟨by rfl, ?_⟩) hH ?_
  rotate_left
  · (intro w'' hSw; have q : w''.cell? ⟨p, 0, none⟩ = some (.pointer (some ⟨r.bb, 0, none⟩)) := hSw.out.c0; go_simp; try with_reducible rfl)
  change wpAnyU _ _ _ _ _ _ _ _ (Act.put _ (some 49) _) _
  try simp only [Act.put, List.setIfInBounds_toArray, List.set_cons_zero, List.set_cons_succ]
  refine wpAnyU_take (i := 4) (v := ?_) rfl (by kernel_rfl) (by kernel_rfl) (by kernel_rfl) (by kernel_rfl) (fun _ _ _ h => h) (Or.inl ⟨by rfl, ?_⟩) hH ?_
  rotate_left
  · (intro w'' hSw; (try dsimp only at hSw); go_simp; try with_reducible rfl)
  change wpAnyU _ _ _ _ _ _ _ _ (Act.put _ (some 50) _) _
  try simp only [Act.put, List.setIfInBounds_toArray, List.set_cons_zero, List.set_cons_succ]
  refine wpAnyU_take (i := 5) (v := ?_) rfl (by kernel_rfl) (by kernel_rfl) (by kernel_rfl) (by kernel_rfl) (fun _ _ _ h => h) (Or.inl ⟨by rfl, ?_⟩) hH ?_
  rotate_left
  · (intro w'' hSw; (try dsimp only at hSw); go_simp; try with_reducible rfl)
  change wpAnyU _ _ _ _ _ _ _ _ (Act.put _ (some 51) _) _
  try simp only [Act.put, List.setIfInBounds_toArray, List.set_cons_zero, List.set_cons_succ]
  refine wpAnyU_take (i := 6) (v := ?_) rfl (by kernel_rfl) (by kernel_rfl) (by kernel_rfl) (by kernel_rfl) (fun _ _ _ h => h) (Or.inl ⟨by rfl, ?_⟩) hH ?_
  rotate_left
  · (intro w'' hSw; (try dsimp only at hSw); go_simp; try with_reducible rfl)
  change wpAnyU _ _ _ _ _ _ _ _ (Act.put _ (some 52) _) _
  try simp only [Act.put, List.setIfInBounds_toArray, List.set_cons_zero, List.set_cons_succ]
  refine wpAnyU_take (i := 7) (v := ?_) rfl (by kernel_rfl) (by kernel_rfl) (by kernel_rfl) (by kernel_rfl) (fun _ _ _ h => h) (Or.inl ⟨by rfl, ?_⟩) hH ?_
  rotate_left
  · (intro w'' hSw; (try dsimp only at hSw); go_simp; try with_reducible rfl)
  change wpAnyU _ _ _ _ _ _ _ _ (Act.put _ (some 53) _) _
  try simp only [Act.put, List.setIfInBounds_toArray, List.set_cons_zero, List.set_cons_succ]
  refine wpAnyU_take (i := 8) (v := ?_) rfl (by kernel_rfl) (by kernel_rfl) (by kernel_rfl) (by kernel_rfl) (fun _ _ _ h => h) (Or.inl ⟨by rfl, ?_⟩) hH ?_
  rotate_left
  · (intro w'' hSw; have q : w''.cell? ⟨eb, 1, none⟩ = some (.int .i64 (a16 : Int)) := (by rw [← HEB.out.2.1, ← HEB.out.2.2.2, ← HEB.out.2.2.1]; exact hSw.out.ecell HEB.out.1 1); go_simp; try with_reducible rfl)
  change wpAnyU _ _ _ _ _ _ _ _ (Act.put _ (some 54) _) _
  try simp only [Act.put, List.setIfInBounds_toArray, List.set_cons_zero, List.set_cons_succ]
  refine wpAnyU_take (i := 9) (v := ?_) rfl (by kernel_rfl) (by kernel_rfl) (by kernel_rfl) (by kernel_rfl) (fun _ _ _ h => h) (Or.inl ⟨by rfl, ?_⟩) hH ?_
  rotate_left
  · (intro w'' hSw; (try dsimp only at hSw); go_simp; try with_reducible rfl)
  change wpAnyU _ _ _ _ _ _ _ _ (Act.put _ (some 55) _) _
  try simp only [Act.put, List.setIfInBounds_toArray, List.set_cons_zero, List.set_cons_succ]
  refine wpAnyU_take (i := 10) (v := ?_) rfl (by kernel_rfl) (by kernel_rfl) (by kernel_rfl) (by kernel_rfl) (fun _ _ _ h => h) (Or.inl ⟨by rfl, ?_⟩) hH ?_
  rotate_left
  · (intro w'' hSw; (try dsimp only at hSw); go_simp; try with_reducible rfl)
  change wpAnyU _ _ _ _ _ _ _ _ (Act.put _ (some 56) _) _
  try simp only [Act.put, List.setIfInBounds_toArray, List.set_cons_zero, List.set_cons_succ]
  refine wpAnyU_take (i := 11) (v := ?_) rfl (by kernel_rfl) (by kernel_rfl) (by kernel_rfl) (by kernel_rfl) (fun _ _ _ h => h) (Or.inl ⟨by rfl, ?_⟩) hH ?_
  rotate_left
  · (intro w'' hSw; (try dsimp only at hSw); go_simp; try with_reducible rfl)
  change wpAnyU _ _ _ _ _ _ _ _ (Act.put _ (some 57) _) _
  try simp only [Act.put, List.setIfInBounds_toArray, List.set_cons_zero, List.set_cons_succ]
  refine wpAnyU_take (i := 12) (v := ?_) rfl (by kernel_rfl) (by kernel_rfl) (by kernel_rfl) (by kernel_rfl) (fun _ _ _ h => h) (Or.inl ⟨by rfl, ?_⟩) hH ?_
  rotate_left
  · (intro w'' hSw; (try dsimp only at hSw); go_simp; try with_reducible rfl)
  change wpAnyU _ _ _ _ _ _ _ _ (Act.put _ (some 58) _) _
  try simp only [Act.put, List.setIfInBounds_toArray, List.set_cons_zero, List.set_cons_succ]
  refine wpAnyU_take (i := 13) (v := ?_) rfl (by kernel_rfl) (by kernel_rfl) (by kernel_rfl) (by kernel_rfl) (fun _ _ _ h => h) (Or.inl ⟨by rfl, ?_⟩) hH ?_
  rotate_left
  · (intro w'' hSw; have q : w''.cell? ⟨eb, 4, none⟩ = some (.string (sb e.bytes)) := (by rw [← HEB.out.2.1, ← HEB.out.2.2.1]; exact hSw.out.ecell HEB.out.1 4); go_simp; try with_reducible rfl)
  change wpAnyU _ _ _ _ _ _ _ _ (Act.put _ (some 59) _) _
  try simp only [Act.put, List.setIfInBounds_toArray, List.set_cons_zero, List.set_cons_succ]
  refine wpAnyU_take (i := 14) (v := ?_) rfl (by kernel_rfl) (by kernel_rfl) (by kernel_rfl) (by kernel_rfl) (fun _ _ _ h => h) (Or.inl ⟨by rfl, ?_⟩) hH ?_
  rotate_left
  · (intro w'' hSw; (try dsimp only at hSw); go_simp; try with_reducible rfl)
  change wpAnyU _ _ _ _ _ _ _ _ (Act.put _ (some 60) _) _
  try simp only [Act.put, List.setIfInBounds_toArray, List.set_cons_zero, List.set_cons_succ]
  refine wpAnyU_ready (rs := [15]) (by kernel_rfl) (by simp) ?_
  refine AllReadyU.cons rfl (fun Kn hKn => ?_) AllReadyU.nil
  go_simp
  go_at_call 33
  (with_reducible refine HFE.out.mono ?_)
  rintro ee w2 ⟨rfl, hb2, hk2⟩
  have HR := Lib.hid (show IsStore n w2 p r (s.left c id) ∧ Keep (r.foot p) w w2 from by
    have hm : r.br.ms.getD c 0 ∈ r.br.ms := getD_mem (by rw [HCO.out.1.msl]; exact HCO.out.2.2)
    refine ⟨(HT.out.1.keep (keep_draw (fun _ => False) W1) (fun _ _ h => h)).turnBoard hb2 (HCO.out.2.1.fetched c _ _) hk2 (.inr hm), ?_⟩
    exact Keep.trans (Keep.trans HT.out.2.1 (keep_draw _ W1)) (Keep.mono hk2 (fun k e => .inr (.inl (.inr (.inr (.inr (e ▸ hm))))))))
  clear hb2 hk2
  refine hKn.out _ _ ?_ (fun hH => ?_)
  · (exact Lib.hid HR.out.1)
  clear hKn Kn
  try simp only [Act.put, List.setIfInBounds_toArray, List.set_cons_zero, List.set_cons_succ]
  refine wpAnyU_take (i := 16) (v := ?_) rfl (by kernel_rfl) (by kernel_rfl) (by kernel_rfl) (by kernel_rfl) (fun _ _ _ h => h) (Or.inl ⟨by rfl, ?_⟩) hH ?_
  rotate_left
  · (intro w'' hSw; (try dsimp only at hSw); go_simp; try with_reducible rfl)
  change wpAnyU _ _ _ _ _ _ _ _ (Act.put _ (some 62) _) _
  try simp only [Act.put, List.setIfInBounds_toArray, List.set_cons_zero, List.set_cons_succ]
  refine wpAnyU_take (i := 17) (v := ?_) rfl (by kernel_rfl) (by kernel_rfl) (by kernel_rfl) (by kernel_rfl) (fun _ _ _ h => h) (Or.inl ⟨by rfl, ?_⟩) hH ?_
  rotate_left
  · (intro w'' hSw; (try dsimp only at hSw); go_simp; try with_reducible rfl)
  change wpAnyU _ _ _ _ _ _ _ _ (Act.put _ (some 63) _) _
  try simp only [Act.put, List.setIfInBounds_toArray, List.set_cons_zero, List.set_cons_succ]
  refine wpAnyU_take (i := 18) (v := ?_) rfl (by kernel_rfl) (by kernel_rfl) (by kernel_rfl) (by kernel_rfl) (fun _ _ _ h => h) (Or.inl ⟨by rfl, ?_⟩) hH ?_
  rotate_left
  · (intro w'' hSw; (try dsimp only at hSw); go_simp; try with_reducible rfl)
  change wpAnyU _ _ _ _ _ _ _ _ (Act.put _ (some 6) _) _
  try simp only [Act.put, List.setIfInBounds_toArray, List.set_cons_zero, List.set_cons_succ]
  refine wpAnyU_take (i := 19) (v := ?_) rfl (by kernel_rfl) (by kernel_rfl) (by kernel_rfl) (by kernel_rfl) (fun _ _ _ h => h) (Or.inl ⟨by rfl, ?_⟩) hH ?_
  rotate_left
  · (intro w'' hSw; (try dsimp only at hSw); go_simp; try with_reducible rfl)
  change wpAnyU _ _ _ _ _ _ _ _ (Act.put _ (some 7) _) _
  try simp only [Act.put, List.setIfInBounds_toArray, List.set_cons_zero, List.set_cons_succ]
  refine wpAnyU_done (by kernel_rfl) ?_ _
  go_wp2_with fail
  go_ret2
  exact ⟨rfl, HR.out.1, HR.out.2⟩
end Go.Proofs.YtnhajhejkecihaaDoor
/- Install: an entry is turned; Drop. -/
namespace Go.Proofs.YtnhajhejkecihaaDoor
open Go.RowKit Go.Lib
set_option linter.unusedVariables false
set_option linter.unusedSimpArgs false

theorem nodup_set : ∀ (l : List Nat) (i x : Nat), l.Nodup → x ∉ l → (l.set i x).Nodup
  | [], _, _, h, _ => by simp
  | y :: l, 0, x, h, hx => by
    rw [List.set_cons_zero, List.nodup_cons]
    exact ⟨fun h' => hx (List.mem_cons_of_mem _ h'), (List.nodup_cons.1 h).2⟩
  | y :: l, i + 1, x, h, hx => by
    rw [List.set_cons_succ, List.nodup_cons]
    refine ⟨fun h' => ?_, nodup_set l i x (List.nodup_cons.1 h).2 (fun h' => hx (List.mem_cons_of_mem _ h'))⟩
    rcases List.mem_or_eq_of_mem_set h' with h' | h'
    · exact (List.nodup_cons.1 h).1 h'
    · exact hx (by rw [← h']; exact List.mem_cons_self)
def MS.put (s : MS) (i : Nat) (e : ME) : MS := { s with all := s.all.set i e }
/-- What tells modules apart. -/
def ME.key (e : ME) : Nat × Nat × Nat := (e.id, e.a, e.stop)
theorem apart_key (l : List ME) : (l.Pairwise fun e f => e.id ≠ f.id ∧ (e.stop ≤ f.a ∨ f.stop ≤ e.a)) ↔ ((l.map ME.key).Pairwise fun x y => x.1 ≠ y.1 ∧ (x.2.2 ≤ y.2.1 ∨ y.2.2 ≤ x.2.1)) := by
  rw [List.pairwise_map]
  rfl
theorem MS.put_inv {s : MS} (h : s.Inv) {i : Nat} (hi : i < s.all.length) (e : ME) (hid : e.id = (s.all.getD i ME.dflt).id) (ha : e.a = (s.all.getD i ME.dflt).a) (hb : e.bytes.length = (s.all.getD i ME.dflt).bytes.length) (ho : e.owed.length = s.inn.length) : (s.put i e).Inv := by
  have hm : s.all.getD i ME.dflt ∈ s.all := getD_mem hi
  have hst : e.stop = (s.all.getD i ME.dflt).stop := by unfold ME.stop; rw [ha, hb]
  have all : ∀ {P : ME → Prop}, (∀ x ∈ s.all, P x) → P e → ∀ x ∈ (s.put i e).all, P x := fun h1 h2 x hx => by
    rcases List.mem_or_eq_of_mem_set hx with hx | rfl
    · exact h1 x hx
    · exact h2
  refine ⟨h.cpus, all h.size ⟨by have := (h.size _ hm).1; omega, by rw [hst]; exact (h.size _ hm).2⟩, all h.owed ho, all h.ids (by rw [hid]; exact h.ids _ hm), ?_, by simpa [MS.put] using h.few, h.next, h.inn⟩
  rw [apart_key]
  have e1 : (s.put i e).all.map ME.key = s.all.map ME.key := by
    unfold MS.put
    simp only
    rw [List.map_set]
    have : ME.key e = (s.all.map ME.key)[i]'(by simpa using hi) := by
      rw [List.getElem_map]
      unfold ME.key
      have hg : s.all.getD i ME.dflt = s.all[i] := by rw [List.getD_eq_getElem?_getD, List.getElem?_eq_getElem hi]; rfl
      rw [hid, ha, hst, hg]
    rw [this, List.set_getElem_self]
  rw [e1, ← apart_key]
  exact h.apart
section
variable {n : Nat} {w w' : World} {p : Nat} {r : SR} {s : MS}
/-- An entry is turned; it has a new map. -/
theorem IsStore.entry (h : IsStore n w p r s) {i : Nat} (hi : i < s.all.length) (e : ME) (o : Nat) (hcell : w'.heap[r.es.getD i 0]? = some (.cells (ecells e (r.xs.getD i MX.dflt) o).toArray 73 (0, 0))) (hf : FB Tryd.prog 3 4 w' o (owedS e.owed) (e.owed.count true))
    (hk : Keep (fun k => k = r.es.getD i 0) w w') (ho : w.heap.size ≤ o) (hinv : (s.put i e).Inv) (hco : ∀ M fs, Coh s M fs → Coh (s.put i e) M fs) : IsStore n w' p { r with os := r.os.set i o } (s.put i e) := by
  obtain ⟨M, fs, hb, hc⟩ := h.board
  have hie : i < r.es.length := by rw [h.eslen]; exact hi
  have hem : r.es.getD i 0 ∈ r.es := getD_mem hie
  obtain ⟨ecs, hec⟩ := h.es_cells hem
  have hl : (s.put i e).all.length = s.all.length := by simp [MS.put]
  have far : ∀ {k : Nat} {cs : Array Value} {t : TypeId}, w.heap[k]? = some (.cells cs t (0, 0)) → t ≠ 73 → k ≠ r.es.getD i 0 := fun hcc ht => cells_ne hcc hec ht
  have hlow : n ≤ w.heap.size := Nat.le_trans (h.low p (.inl rfl)) (Nat.le_of_lt (blk_lt h.hdr))
  have hrow := hk.own h.row (fun k e' => by
    obtain ⟨c, hcc⟩ := own_type h.row e'
    exact far hcc (by decide))
  refine ⟨by rw [hl]; exact (hk.block p (blk_lt h.hdr) (far h.hdr (by decide))).trans h.hdr, ⟨M, fs, hb.keep hk (board_far hb hec (by decide) (by decide) (by decide)), hco M fs hc⟩, hk.own h.inn (fun k e' => ?_), by rw [hl]; exact hrow, fun j hj => ?_, h.esN, ?_, ⟨by rw [List.length_set, hl]; exact h.oslen.1, by rw [hl]; exact h.oslen.2⟩, fun k hkf => ?_, hinv⟩
  · obtain ⟨c, hcc⟩ := own_type h.inn e'
    exact far hcc (by decide)
  · rw [hl] at hj
    by_cases hij : i = j
    · subst hij
      have e1 : (s.put i e).all.getD i ME.dflt = e := getD_set_self _ _ _ _ hi
      have e2 : (r.os.set i o).getD i 0 = o := getD_set_self _ _ _ _ (by rw [h.oslen.1]; exact hi)
      rw [e1]
      show w'.heap[r.es.getD i 0]? = some (.cells (ecells e (r.xs.getD i MX.dflt) ((r.os.set i o).getD i 0)).toArray _ _) ∧ FB _ _ _ _ ((r.os.set i o).getD i 0) _ _
      rw [e2]
      exact ⟨hcell, hf⟩
    · have e1 : (s.put i e).all.getD j ME.dflt = s.all.getD j ME.dflt := getD_set_ne' _ _ _ _ _ hij
      have e2 : (r.os.set i o).getD j 0 = r.os.getD j 0 := getD_set_ne' _ _ _ _ _ hij
      rw [e1]
      show w'.heap[r.es.getD j 0]? = some (.cells (ecells _ (r.xs.getD j MX.dflt) ((r.os.set i o).getD j 0)).toArray _ _) ∧ FB _ _ _ _ ((r.os.set i o).getD j 0) _ _
      rw [e2]
      refine ⟨(hk.block _ (blk_lt (h.ents j hj).1) (nodup_ne h.esN (by rw [h.eslen]; exact hj) hie (fun e => hij e.symm))).trans (h.ents j hj).1, (h.ents j hj).2.keep hk (fun e' => ?_)⟩
      obtain ⟨es, ck, hm⟩ := h.os_map (getD_mem (i := j) (x := 0) (by rw [h.oslen.1]; exact hj))
      exact map_ne hec hm e'.symm
  · have hold : ∀ k ∈ r.br.ms ++ r.os, k < w.heap.size := fun k hk => by
      rcases List.mem_append.1 hk with hk | hk
      · exact h.foot_lt k (.inr (.inl (.inr (.inr (.inr hk)))))
      · exact h.foot_lt k (.inr (.inr (.inr (.inr (.inr hk)))))
    have := List.nodup_append.1 h.maps
    show (r.br.ms ++ r.os.set i o).Nodup
    rw [List.nodup_append]
    refine ⟨this.1, nodup_set _ _ _ this.2.1 (fun hm => by have := hold o (List.mem_append.2 (.inr hm)); omega), fun x hx y hy => ?_⟩
    rcases List.mem_or_eq_of_mem_set hy with hy | rfl
    · exact this.2.2 x hx y hy
    · have := hold x (List.mem_append.2 (.inl hx))
      omega
  · rcases hkf with hk1 | hk1 | hk1 | hk1 | hk1 | hk1
    · exact h.low k (.inl hk1)
    · exact h.low k (.inr (.inl hk1))
    · exact h.low k (.inr (.inr (.inl hk1)))
    · exact h.low k (.inr (.inr (.inr (.inl hk1))))
    · exact h.low k (.inr (.inr (.inr (.inr (.inl hk1)))))
    · rcases List.mem_or_eq_of_mem_set hk1 with hk1 | rfl
      · exact h.low k (.inr (.inr (.inr (.inr (.inr hk1)))))
      · omega
end
/-- Who owes a module on every processor may have whatever in the caches. -/
theorem Coh.owing {s : MS} {M : Bytes} {fs : List Cache} (h : Coh s M fs) {i : Nat} (hi : i < s.all.length) (e : ME) (hb : e.bytes = (s.all.getD i ME.dflt).bytes) (ha : e.a = (s.all.getD i ME.dflt).a) (ho : e.owed = s.owing) : Coh (s.put i e) M fs := by
  have hm : s.all.getD i ME.dflt ∈ s.all := getD_mem hi
  refine ⟨h.len, fun x hx => ?_, fun c hc x hx hox => ?_⟩
  · rcases List.mem_or_eq_of_mem_set hx with hx | rfl
    · exact h.mem x hx
    · rw [hb, ha]; exact h.mem _ hm
  · rcases List.mem_or_eq_of_mem_set hx with hx | rfl
    · exact h.cache c hc x hx hox
    · rw [ho] at hox
      have hcl : c < s.inn.length := by rw [← h.len]; exact hc
      simp [MS.owing, List.getD_eq_getElem?_getD, hcl] at hox
set_option maxRecDepth 100000 in
set_option maxHeartbeats 4000000 in
theorem drop_any {n : Nat} {w : World} {p : Nat} {r : SR} {s : MS} (h : IsStore n w p r s) (id : Int) {i : Nat} (hf : s.find id = some i) :
    Calls Tryd.prog 22 #[.pointer (some ⟨p, 0, none⟩), .int .i64 id] w fun e w' => e = .returned (.int .i64 0) ∧ ∃ r', IsStore n w' p r' (s.dropped i (s.all.getD i ME.dflt)) ∧ Keep (r.foot p) w w' ∧ ∀ k, r'.foot p k → r.foot p k ∨ w.heap.size ≤ k := by
  have HC := Lib.hid (closed_any h)
  have HF := Lib.hid (find_any h id)
  rw [hf] at HF
  obtain ⟨hi, _, _⟩ := found_at hf
  obtain ⟨eb, heb⟩ : ∃ eb, r.es.getD i 0 = eb := ⟨_, rfl⟩
  change Hid (Calls _ _ _ _ fun e w' => e = Ending.returned (Value.pointer (some ⟨r.es.getD i 0, 0, none⟩)) ∧ _) at HF
  have hent := (h.ents i hi).1
  obtain ⟨e, he⟩ : ∃ e, s.all.getD i ME.dflt = e := ⟨_, rfl⟩
  obtain ⟨x, hx⟩ : ∃ x, r.xs.getD i MX.dflt = x := ⟨_, rfl⟩
  obtain ⟨o, hoo⟩ : ∃ o, r.os.getD i 0 = o := ⟨_, rfl⟩
  rw [heb] at HF
  rw [heb, he, hx, hoo] at hent
  have e11 : w.cell? ⟨eb, 11, none⟩ = some (.bool e.dropped) := (blk_cell hent 11).trans rfl
  have f11 := blk_free hent 11
  have ks := keep_set (Keep.refl (fun k => k = eb) w) 11 (.bool true)
  have hb1 := blk_set hent 11 (.bool true)
  have hpe : p ≠ eb := cells_ne h.hdr hent (by decide)
  have c1 := cell_kept ks h.c1 hpe
  have HO := Lib.hid (owe_low (p := p) c1 hb1 (by simp [ecells]) hpe h.inv.cpus.2)
  have H := Lib.hid (And.intro h (And.intro hi (And.intro heb (And.intro he hx))))
  have hsz : (w.setCell ⟨eb, 11, none⟩ (.bool true)).heap.size = w.heap.size := by simp [World.setCell]
  have KS := Lib.hid (And.intro ks hsz)
  clear h hf hi heb he hx hoo hent ks hb1 c1 hpe hsz
  go_enter Tryd.func22, Tryd.ntmps22
  go_wp2_with fail
  ((with_reducible refine HC.out.mono ?_); rintro ee w' ⟨rfl, rfl⟩)
  go_wp2_with fail
  ((with_reducible refine HF.out.mono ?_); rintro ee w' ⟨rfl, rfl⟩)
  clear HC HF
  go_wp2_with fail
  ((with_reducible refine HO.out.mono ?_); rintro ee w2 ⟨rfl, o2, ho2, hc2, hf2, hk2⟩)
  have HR := Lib.hid (show ∃ r', IsStore n w2 p r' (s.dropped i (s.all.getD i ME.dflt)) ∧ Keep (r.foot p) w w2 ∧ ∀ k, r'.foot p k → r.foot p k ∨ w.heap.size ≤ k from by
    obtain ⟨h, hi, heb, he, hx⟩ := H.out
    have hk : Keep (fun k => k = eb) w w2 := Keep.trans KS.out.1 hk2
    have hm : s.all.getD i ME.dflt ∈ s.all := getD_mem hi
    have hlowe : n ≤ eb := by rw [← heb]; exact h.low _ (.inr (.inr (.inr (.inr (.inl (getD_mem (by rw [h.eslen]; exact hi)))))))
    refine ⟨_, h.entry hi { e with dropped := true, owed := s.owing } o2 (by rw [heb, hx]; exact hc2) ?_ (by rw [heb]; exact hk) (by rw [← KS.out.2]; exact ho2) (s.put_inv h.inv hi _ (by rw [he]) (by rw [he]) (by rw [he]) (by simp [MS.owing])) (fun M fs hco => hco.owing hi _ (by rw [he]) (by rw [he]) rfl) |> fun hh => (by rw [MS.dropped, he]; exact hh), Keep.mono hk (fun k e => by rw [e, ← heb]; exact .inr (.inr (.inr (.inr (.inl (getD_mem (by rw [h.eslen]; exact hi))))))), fun k hk' => ?_⟩
    · have e1 : (s.owing).count true = s.inn.length := by simp [MS.owing]
      show FB _ _ _ _ _ (owedS s.owing) (s.owing.count true)
      rw [e1]
      exact hf2
    · rcases hk' with h1 | h1 | h1 | h1 | h1 | h1
      · exact .inl (.inl h1)
      · exact .inl (.inr (.inl h1))
      · exact .inl (.inr (.inr (.inl h1)))
      · exact .inl (.inr (.inr (.inr (.inl h1))))
      · exact .inl (.inr (.inr (.inr (.inr (.inl h1)))))
      · rcases List.mem_or_eq_of_mem_set h1 with h1 | rfl
        · exact .inl (.inr (.inr (.inr (.inr (.inr h1)))))
        · exact .inr (by rw [← KS.out.2]; exact ho2))
  clear hc2 hf2 hk2 ho2
  go_wp2_with fail
  go_ret
  exact ⟨rfl, HR.out⟩
end Go.Proofs.YtnhajhejkecihaaDoor
/- Install: bits.Mul, slices.Repeat. -/
namespace Go.Proofs.YtnhajhejkecihaaDoor
open Go.RowKit Go.Lib
set_option linter.unusedVariables false
set_option linter.unusedSimpArgs false

set_option maxRecDepth 100000 in
set_option maxHeartbeats 2000000 in
theorem mul64_any (w : World) (n : Nat) (hn : 1 ≤ n ∧ n ≤ 4) : Calls Tryd.prog 73 #[.int .u64 1, .int .u64 n] w fun e w' => e = .returned (.tuple #[.int .u64 0, .int .u64 n]) ∧ w = w' := by
  rcases (show n = 1 ∨ n = 2 ∨ n = 3 ∨ n = 4 by omega) with rfl | rfl | rfl | rfl
  all_goals (
    go_enter Tryd.func73, Tryd.ntmps73
    go_wp2_with fail
    go_ret2
    exact ⟨rfl, rfl⟩)
set_option maxRecDepth 100000 in
set_option maxHeartbeats 2000000 in
theorem mul_any (w : World) (n : Nat) (hn : 1 ≤ n ∧ n ≤ 4) : Calls Tryd.prog 65 #[.int .u64 1, .int .u64 n] w fun e w' => e = .returned (.tuple #[.int .u64 0, .int .u64 n]) ∧ w = w' := by
  have HM := Lib.hid (mul64_any w n hn)
  go_enter Tryd.func65, Tryd.ntmps65
  go_wp2_with fail
  ((with_reducible refine HM.out.mono ?_); rintro e w' ⟨rfl, rfl⟩)
  go_wp2_with fail
  go_ret2
  exact ⟨rfl, rfl⟩
def rep (k n : Nat) : List Int := List.replicate k (-1) ++ List.replicate (n - k) 0
theorem rep_length {k n : Nat} (h : k ≤ n) : (rep k n).length = n := by simp [rep]; omega
theorem rep_next {k m n : Nat} (h : k + m ≤ n) : (rep k n).take k ++ List.replicate m (-1) ++ (rep k n).drop (k + m) = rep (k + m) n := by
  unfold rep
  have h1 : (List.replicate k (-1 : Int) ++ List.replicate (n - k) 0).take k = List.replicate k (-1) := by rw [List.take_left' (by simp)]
  have h2 : (List.replicate k (-1 : Int) ++ List.replicate (n - k) 0).drop (k + m) = List.replicate (n - (k + m)) 0 := by
    rw [List.drop_append, List.drop_eq_nil_of_le (by simp), List.nil_append, List.drop_replicate]
    congr 1
    simp
    omega
  rw [h1, h2, ← List.replicate_append_replicate]
theorem rep_at {j k n : Nat} (h : j < k) : (ints (rep k n))[j]? = some (.int .i64 (-1)) := by
  simp only [ints, rep, List.map_append, List.map_replicate]
  rw [List.getElem?_append_left (by simpa using h)]
  simp [h]
theorem Tryd.ints1 : OneTy Tryd.prog 29 3 (.int .i64 0) 8 := ⟨Tryd.underlying29, by kernel_rfl, rfl⟩
theorem ints_one1 (xs : List Int) : ∀ u ∈ ints xs, u.oneCell' = true := by
  intro u hu
  simp only [ints, List.mem_map] at hu
  obtain ⟨_, _, rfl⟩ := hu
  rfl
theorem ints_append1 (xs ys : List Int) : ints (xs ++ ys) = ints xs ++ ints ys := by simp [ints]
/-- The row that is being filled. -/
structure RP (w : World) (g k n : Nat) (W : World) : Prop where
  row : W.heap[g]? = some (.cells (ints (rep k n)).toArray 3 (0, 0))
  keep : Keep (fun _ => False) w W
  low : w.heap.size ≤ g
theorem RP.copied {w W : World} {g k m n : Nat} (h : RP w g k n W) (hm : k + m ≤ n) {new : Array Value} (hn : new.toList = (ints (rep k n)).take k ++ ints (List.replicate m (-1)) ++ (ints (rep k n)).drop (k + m)) : RP w g (k + m) n (W.setRow g new) := by
  have e : new = (ints (rep (k + m) n)).toArray := by
    apply Array.ext'
    rw [hn, ← rep_next hm, ints_append1, ints_append1]
    simp [ints, List.map_take, List.map_drop]
  rw [e]
  exact ⟨setRow_heap W g _ _ _ _ h.row, h.keep.then (F' := fun k => k = g) ⟨rfl, rfl, rfl, by simp, fun k _ hk => setRow_other W g k _ hk⟩ (fun i e => .inr (by have := h.low; omega)), h.low⟩
set_option maxRecDepth 100000 in
set_option maxHeartbeats 4000000 in
theorem repeat_any {w : World} {xb c : Nat} (hx : w.cell? ⟨xb, 0, none⟩ = some (.int .i64 (-1))) (hxl : xb < w.heap.size) (n : Nat) (hn : 1 ≤ n ∧ n ≤ 4) :
    Calls Tryd.prog 45 #[.slice (some ⟨xb, 0, none⟩) 1 c, .int .i64 n] w fun e w' => ∃ g, e = .returned (.slice (some ⟨g, 0, none⟩) n n) ∧ w'.heap[g]? = some (.cells (ints (List.replicate n (-1))).toArray 3 (0, 0)) ∧ w.heap.size ≤ g ∧ Keep (fun _ => False) w w' := by
  have HM := Lib.hid (fun W => mul_any W n hn)
  have hmk : ∀ W : World, (Instr.makeSlice 29 (.int .i64 (n : Int)) (.int .i64 (n : Int))).run Tryd.prog W = .ok (.slice (some ⟨W.heap.size, 0, none⟩) n n) (W.alloc (.cells (madeCells #[.int .i64 0] n) 3)) :=
    fun W => run_make_row' 29 3 (.int .i64 0) 8 Tryd.ints1.ht Tryd.ints1.info rfl .i64 .i64 n (by omega) (by omega) W
  have hw : IntKind.u64.wrap (n : Int) = n := by
    rcases (show n = 1 ∨ n = 2 ∨ n = 3 ∨ n = 4 by omega) with rfl | rfl | rfl | rfl <;> rfl
  have hgt : decide ((9223372036854775807 : Int) < (n : Int)) = false := decide_eq_false (by omega)
  have hlt0 : decide ((n : Int) < 0) = false := decide_eq_false (by omega)
  have hgt2 : ¬ (9223372036854775807 < n) := by omega
  have HX := Lib.hid (And.intro hx hxl)
  clear hx hxl
  go_enter Tryd.func45, Tryd.ntmps45
  go_wp2_with fail
  ((with_reducible refine (HM.out _).mono ?_); rintro e w' ⟨rfl, rfl⟩)
  clear HM
  go_wp2_with fail
  have R0 : RP w w.heap.size 0 n (w.alloc (.cells (madeCells #[.int .i64 0] n) 3)) := by
    refine ⟨?_, (Keep.refl (fun _ => False) w).alloc' _, Nat.le_refl _⟩
    have e : (ints (rep 0 n)).toArray = madeCells #[Value.int .i64 0] n := by
      apply Array.ext'
      rw [toList_madeCells_one]
      simp [rep, ints]
    rw [e]
    exact heap_alloc_new _ _
  obtain ⟨W1, hW⟩ : ∃ W1, w.alloc (.cells (madeCells #[.int .i64 0] n) 3) = W1 := ⟨_, rfl⟩
  obtain ⟨g, hg⟩ : ∃ g, w.heap.size = g := ⟨_, rfl⟩
  rw [hW] at R0
  rw [hg] at R0
  rw [hW, hg]
  have hx1 : W1.cell? ⟨xb, 0, none⟩ = some (.int .i64 (-1)) := cell_kept R0.keep HX.out.1 id
  have hc1 := run_copy_row (P := Tryd.prog) W1 29 29 3 3 g 0 n n ⟨xb, 0, none⟩ 1 c _ _ (ints [-1]) Tryd.ints1.ht (by kernel_rfl) R0.row (by show 1 = min 1 n; omega) (fun j v hv => by
    rcases j with _ | j
    · rw [Addr.add_lit]
      simp [ints] at hv
      rw [← hv]
      exact hx1
    · simp [ints] at hv) (by simp [ints, rep]; omega) (ints_one1 _)
  have R1 := R0.copied (m := 1) (new := ((ints (rep 0 n)).toArray.toList.take 0 ++ ints [-1] ++ (ints (rep 0 n)).toArray.toList.drop (0 + (ints [-1]).length)).toArray) (by omega) rfl
  obtain ⟨W2, hW2⟩ : ∃ W2, W1.setRow g ((ints (rep 0 n)).toArray.toList.take 0 ++ ints [-1] ++ (ints (rep 0 n)).toArray.toList.drop (0 + (ints [-1]).length)).toArray = W2 := ⟨_, rfl⟩
  rw [hW2] at hc1 R1
  rw [show (ints [-1]).length = 1 from rfl] at hc1
  have HR1 := Lib.hid R1
  clear hW hW2 hg R0 R1 hx1 hmk hw hgt hlt0 hgt2
  rw [hc1]
  go_wp2_with fail
  go_loopw [8] (fun i wr => ∃ k : Nat, (1 ≤ k ∧ k ≤ n) ∧ i = .int .i64 (k : Int) ∧ Hid (RP w g k n wr)) (fun i _ => n + 1 - (RowKit.intOf i).toNat)
  case atStart => exact ⟨1, by omega, rfl, HR1⟩
  case round =>
    obtain ⟨k, hk, rfl, RR⟩ := hrel
    obtain ⟨wo, rfl⟩ : ∃ wo : World, wo = wr := ⟨_, rfl⟩
    clear HR1 hc1
    by_cases hlt : k < n
    · have hb : decide (k < n) = true := by simpa using hlt
      obtain ⟨m, hm⟩ : ∃ m, Nat.min k (n - k) = m := ⟨_, rfl⟩
      have hm1 : 1 ≤ m ∧ k + m ≤ n := by
        rw [← hm]
        show 1 ≤ min k (n - k) ∧ k + min k (n - k) ≤ n
        omega
      have hmk : m ≤ k := by
        rw [← hm]
        show min k (n - k) ≤ k
        omega
      have RD : RP w g k n wo.drew := ⟨RR.out.row, Keep.trans RR.out.keep (keep_draw _ wo), RR.out.low⟩
      have hcp := run_copy_row (P := Tryd.prog) wo.drew 29 29 3 3 g k (n - k) (n - k) ⟨g, 0, none⟩ k n _ _ (ints (List.replicate m (-1))) Tryd.ints1.ht (by kernel_rfl) RD.row (by simp [ints]; exact hm.symm) (fun j v hv => by
        have hjm : j < m := by have := (List.getElem?_eq_some_iff.1 hv).1; simpa [ints] using this
        rw [Addr.add_lit, Nat.zero_add, blk_cell RD.row, List.getElem?_toArray, rep_at (by omega)]
        rw [← hv]
        simp [ints, hjm]) (by simp [ints, rep]; omega) (ints_one1 _)
      have R2 := RD.copied (m := m) (new := ((ints (rep k n)).toArray.toList.take k ++ ints (List.replicate m (-1)) ++ (ints (rep k n)).toArray.toList.drop (k + (ints (List.replicate m (-1))).length)).toArray) hm1.2 (by simp [ints])
      obtain ⟨W3, hW3⟩ : ∃ W3, wo.drew.setRow g ((ints (rep k n)).toArray.toList.take k ++ ints (List.replicate m (-1)) ++ (ints (rep k n)).toArray.toList.drop (k + (ints (List.replicate m (-1))).length)).toArray = W3 := ⟨_, rfl⟩
      rw [hW3, show (ints (List.replicate m (-1))).length = m by simp [ints]] at hcp
      rw [hW3] at R2
      have HR2 := Lib.hid R2
      have h1 : (0 : Int) ≤ k := by omega
      have h2 : (k : Int) ≤ n := by omega
      have h3 : ¬ n = k := by omega
      have hwr : IntKind.i64.wrap ((k : Int) + (m : Int)) = ((k + m : Nat) : Int) := by
        rw [IntKind.wrap_i64]
        omega
      clear hW3 RD R2 hm
      go_wp2_with fail
      go_region_law (fail)
      all_goals go_wp2_with fail
      all_goals (
        try go_simp
        try simp only [Act.put, List.setIfInBounds_toArray, List.set_cons_zero, List.set_cons_succ, hwr]
        refine ⟨⟨k + m, by omega, by omega, HR2⟩, ?_⟩
        simp [RowKit.intOf]
        omega)
    · have hb : decide (k < n) = false := by simpa using hlt
      obtain rfl : k = n := by omega
      go_wp2_with fail
      go_ret
      refine ⟨g, rfl, ?_, RR.out.low, RR.out.keep⟩
      have := RR.out.row
      rwa [show rep k k = List.replicate k (-1) by simp [rep]] at this
end Go.Proofs.YtnhajhejkecihaaDoor
/- Install: install.New. -/
namespace Go.Proofs.YtnhajhejkecihaaDoor
open Go.RowKit Go.Lib
set_option linter.unusedVariables false

def MS.new (n : Nat) : MS := ⟨List.replicate n (-1), [], 0⟩
theorem MS.new_inv {n : Nat} (hn : 1 ≤ n ∧ n ≤ 4) : (MS.new n).Inv := by
  refine ⟨by simpa [MS.new] using hn, by simp [MS.new], by simp [MS.new], by simp [MS.new], by simp [MS.new], by simp [MS.new], by simp [MS.new], fun v hv => ?_⟩
  have := List.eq_of_mem_replicate hv
  subst this
  exact ⟨by omega, by simp [MS.new]⟩
set_option maxRecDepth 100000 in
set_option maxHeartbeats 4000000 in
theorem new_any (w : World) (n : Nat) (hn : 1 ≤ n ∧ n ≤ 4) : Calls Tryd.prog 23 #[.int .i64 n] w fun e w' => ∃ p r, e = .returned (.tuple #[.pointer (some ⟨p, 0, none⟩), .int .i64 0]) ∧ IsStore w.heap.size w' p r (MS.new n) ∧ Since w.heap.size w w' := by
  have HB := Lib.hid (board_new w n hn)
  have HR := Lib.hid (fun (W : World) (xb : Nat) (c : Nat) (h : W.cell? ⟨xb, 0, none⟩ = some (.int .i64 (-1))) (hl : xb < W.heap.size) => repeat_any (c := c) h hl n hn)
  go_enter Tryd.func23, Tryd.ntmps23
  go_wp2_with fail
  ((with_reducible refine HB.out.mono ?_); rintro e w1 ⟨b, r, rfl, ib, low, since⟩)
  have H1 := Lib.hid (And.intro ib (And.intro low since))
  clear HB ib low since
  go_wp2_with fail
  ((with_reducible refine (HR.out _ _ _ (by exact (blk_cell (heap_alloc_new w1 _) 0).trans rfl) (by simp)).mono ?_); rintro e w2 ⟨g, rfl, hg, hgl, hk⟩)
  have H2 := Lib.hid (And.intro hg (And.intro hgl hk))
  clear HR hg hgl hk
  go_wp2_with fail
  go_ret2
  obtain ⟨ib, low, since⟩ := H1.out
  obtain ⟨hg, hgl, hk⟩ := H2.out
  have k1 : Keep (fun _ => False) w1 w2 := Keep.trans ((Keep.refl (fun _ => False) w1).alloc' _) hk
  have k2 := k1.alloc' (.cells #[.pointer (some ⟨b, 0, none⟩), .slice (some ⟨g, 0, none⟩) n n, .slice none 0 0, .int .i64 0] 63)
  have hw1 : w1.heap.size < g := by
    have : w1.heap.size + 1 ≤ g := by simpa using hgl
    omega
  have hgo := alloc_old' (o' := .cells #[.pointer (some ⟨b, 0, none⟩), .slice (some ⟨g, 0, none⟩) n n, .slice none 0 0, .int .i64 0] 63) hg
  refine ⟨w2.heap.size, ⟨b, r, g, n, none, 0, [], [], []⟩, rfl, ⟨?_, ⟨_, _, ib.keep k2 (fun _ _ => id), ?_⟩, ?_, World.ownsRow_nil _ _ _ _, fun i hi => (by simp [MS.new] at hi), by simp, ?_, by simp [MS.new], ?_, MS.new_inv hn⟩, ?_⟩
  · simp only [MS.new, List.length_replicate]
    exact heap_alloc_new _ _
  · refine ⟨by simp [MS.new], by simp [MS.new], fun c _ e he => (by simp [MS.new] at he)⟩
  · simp only [MS.new, List.length_replicate]
    refine ⟨by simp [ints], .inr ⟨g, n, (ints (List.replicate n (-1))).toArray, rfl, Nat.zero_le _, hgo, by omega, by unfold maxLen; omega, by simp [ints], ?_⟩⟩
    simp [ints]
  · simp
    exact ib.nodup
  · rintro k (rfl | hk' | rfl | ⟨a, ha, _⟩ | hk' | hk')
    · have := since.size; have := k1.size; omega
    · exact low k hk'
    · have := since.size; omega
    · cases ha
    · cases hk'
    · cases hk'
  · exact Keep.trans since (Since.of k2)
end Go.Proofs.YtnhajhejkecihaaDoor
/- Install: Live. -/
namespace Go.Proofs.YtnhajhejkecihaaDoor
open Go.RowKit Go.Lib
set_option linter.unusedVariables false
set_option linter.unusedSimpArgs false

def ME.lives (e : ME) : Bool := !e.dropped && e.free
def liveL (l : List ME) : List Int := (l.filter ME.lives).map fun e => (e.id : Int)
theorem live_take (l : List ME) (k : Nat) (hk : k < l.length) : liveL (l.take (k + 1)) = liveL (l.take k) ++ if (l.getD k ME.dflt).lives then [((l.getD k ME.dflt).id : Int)] else [] := by
  unfold liveL
  rw [List.take_succ_eq_append_getElem hk, List.filter_append, List.map_append, List.getD_eq_getElem?_getD, List.getElem?_eq_getElem hk]
  simp only [Option.getD_some]
  cases h : (l[k]).lives <;> simp [h]
theorem live_len (l : List ME) : (liveL l).length ≤ l.length := by
  unfold liveL
  rw [List.length_map]
  exact List.length_filter_le _ _
theorem free_count (l : List Bool) : (l.count true = 0) ↔ (l.all (!·)) = true := by
  induction l with
  | nil => simp
  | cons b l ih => cases b <;> simp_all
theorem ME.free_dec (e : ME) : decide (e.owed.count true = 0) = e.free := by
  have := free_count e.owed
  unfold ME.free
  cases h : e.owed.all (!·) with
  | true => rw [h] at this; simp [this.2 rfl]
  | false => rw [h] at this; simp [this]
set_option maxRecDepth 100000 in
set_option maxHeartbeats 4000000 in
theorem live_any {n : Nat} {w : World} {p : Nat} {r : SR} {s : MS} (h : IsStore n w p r s) : Calls Tryd.prog 11 #[.pointer (some ⟨p, 0, none⟩)] w fun e w' => (∃ A c, e = .returned (.slice A (liveL s.all).length c) ∧ w'.ownsRow w.heap.size 3 1 (.slice A (liveL s.all).length c) (liveL s.all).length (ints (liveL s.all))) ∧ Since w.heap.size w w' := by
  have HC := Lib.hid (closed_any h)
  have H := Lib.hid h
  have c2 := h.c2
  have hN := h.inv.few
  clear h
  obtain ⟨N, hNN⟩ : ∃ N, s.all.length = N := ⟨_, rfl⟩
  have HN := Lib.hid hNN
  rw [hNN] at c2 hN
  clear hNN
  go_enter Tryd.func11, Tryd.ntmps11
  go_wp2_with fail
  ((with_reducible refine HC.out.mono ?_); rintro e w' ⟨rfl, rfl⟩)
  clear HC
  go_wp2_with fail
  clear c2
  go_loopw [3, 13] (fun v i wr => ∃ k : Nat, k ≤ N ∧ i = .int .i64 (k : Int) ∧ Hid (wr.ownsRow w.heap.size 3 1 v (liveL (s.all.take k)).length (ints (liveL (s.all.take k))) ∧ Since w.heap.size w wr)) (fun _ i _ => N + 1 - (RowKit.intOf i).toNat)
  case atStart => exact ⟨0, by omega, rfl, Lib.hid ⟨by simpa [liveL, ints] using World.ownsRow_nil _ _ _ _, Keep.refl _ _⟩⟩
  case round =>
    obtain ⟨k, hk, rfl, VV⟩ := hrel
    obtain ⟨wo, rfl⟩ : ∃ wo : World, wo = wr := ⟨_, rfl⟩
    by_cases hlt : k < N
    · have hb : decide (k < N) = true := by simpa using hlt
      have hkN : k < s.all.length := by rw [HN.out]; exact hlt
      have HS := Lib.hid (H.out.since VV.out.2)
      obtain ⟨g, hg, hp⟩ := HS.out.ptr hkN
      have hst := live_take s.all k hkN
      have hfb := (HS.out.ents k hkN).2
      obtain ⟨eb, heb⟩ : ∃ eb, r.es.getD k 0 = eb := ⟨_, rfl⟩
      obtain ⟨e, he⟩ : ∃ e, s.all.getD k ME.dflt = e := ⟨_, rfl⟩
      obtain ⟨o, ho⟩ : ∃ o, r.os.getD k 0 = o := ⟨_, rfl⟩
      have e0 := (HS.out.ecell hkN 0)
      have e11 := (HS.out.ecell hkN 11)
      have e12 := (HS.out.ecell hkN 12)
      rw [heb, he, ho] at e0 e11 e12
      replace e0 : wo.cell? ⟨eb, 0, none⟩ = some (.int .i64 e.id) := e0.trans rfl
      replace e11 : wo.cell? ⟨eb, 11, none⟩ = some (.bool e.dropped) := e11.trans rfl
      replace e12 : wo.cell? ⟨eb, 12, none⟩ = some (.map (some o)) := e12.trans rfl
      rw [heb] at hp
      rw [he] at hst hfb
      rw [ho] at hfb
      obtain ⟨C, hC⟩ : ∃ C, e.owed.count true = C := ⟨_, rfl⟩
      have hfr := e.free_dec
      rw [hC] at hfb hfr
      have hln := hfb.len (t := 71) Tryd.underlying71 3
      have hlk : k < 16 := by have := hN; omega
      have hle : (liveL (s.all.take k)).length ≤ k := by
        have := live_len (s.all.take k)
        rw [List.length_take] at this
        omega
      rw [hg]
      obtain ⟨d, hd⟩ : ∃ d, e.dropped = d := ⟨_, rfl⟩
      obtain ⟨idd, hid⟩ : ∃ q : Nat, e.id = q := ⟨_, rfl⟩
      rw [hd] at e11
      rw [hid] at e0 hst
      have hlv : e.lives = (!d && decide (C = 0)) := by unfold ME.lives; rw [hd, hfr]
      rw [hlv] at hst
      have HST := Lib.hid hst
      obtain ⟨l, hl⟩ : ∃ l, liveL (s.all.take k) = l := ⟨_, rfl⟩
      rw [hl] at HST hle
      have HV := Lib.hid (show wo.ownsRow w.heap.size 3 1 u3 l.length (ints l) ∧ Since w.heap.size w wo from hl ▸ VV.out)
      clear hst hlv hfr hC hfb hd hid heb he ho hg hl VV
      cases d with
      | true =>
        have HE := Lib.hid (show liveL (s.all.take (k + 1)) = l by rw [HST.out]; simp)
        go_wp2_with fail
        exact ⟨⟨k + 1, by omega, by go_num, by rw [HE.out]; exact HV⟩, by simp [RowKit.intOf]; omega⟩
      | false =>
        by_cases hC0 : C = 0
        · subst hC0
          have HE := Lib.hid (show liveL (s.all.take (k + 1)) = l ++ [(idd : Int)] by rw [HST.out]; simp)
          go_wp2_with (at_builtin; go_loud (refine wpList_append_src 29 3 _ 8 w.heap.size Tryd.ints1 _ _ rfl rfl _ l.length (ints l) rfl (by exact HV.out.1.alloc _) _ 1 1 (ints [(idd : Int)]) rfl (by intro h; cases h) (by exact cells_new _ _ _) (ints_one1 _) (by omega) (by decide) (by have := HV.out.2.size; simp; omega) ?_); intro v' w2 hown hgr hnil hblk; have HX := Lib.hid (And.intro hown hgr); clear hown hgr hnil hblk)
          have HY := Lib.hid (show w2.ownsRow w.heap.size 3 1 v' (liveL (s.all.take (k + 1))).length (ints (liveL (s.all.take (k + 1)))) ∧ Since w.heap.size w w2 from ⟨by
            rw [HE.out, ints_append1, List.length_append]
            exact HX.out.1, (Keep.trans HV.out.2 (Since.of ((Keep.refl _ wo).alloc' _))).grown HX.out.2 (fun k e => .inl (own_low HV.out.1 e))⟩)
          exact ⟨⟨k + 1, by omega, by go_num, HY⟩, by simp [RowKit.intOf]; omega⟩
        · have hc0 : decide (C = 0) = false := by simpa using hC0
          have HE := Lib.hid (show liveL (s.all.take (k + 1)) = l by rw [HST.out, hc0]; simp)
          have hc1 : ¬ ((C : Int) = 0) := by omega
          go_wp2_with fail
          exact ⟨⟨k + 1, by omega, by go_num, by rw [HE.out]; exact HV⟩, by simp [RowKit.intOf]; omega⟩
    · have hb : decide (k < N) = false := by simpa using hlt
      obtain rfl : k = N := by omega
      have hown := VV.out.1
      rw [List.take_of_length_le (by rw [HN.out]; omega)] at hown
      obtain ⟨A, c, rfl⟩ := own_slice hown
      have HW := Lib.hid hown; clear hown
      go_wp2_with fail
      go_ret
      exact ⟨⟨A, c, rfl, HW.out⟩, VV.out.2⟩
end Go.Proofs.YtnhajhejkecihaaDoor
/- Install: slices.IndexFunc and slices.DeleteFunc as Safe calls them. -/
namespace Go.Proofs.YtnhajhejkecihaaDoor
open Go.RowKit Go.Lib
set_option linter.unusedVariables false
set_option linter.unusedSimpArgs false

/-! ### plain -/
def kept (g : Nat → Bool) (j : Nat) : List Nat := (List.range j).filter fun i => !g i
theorem kept_step (g : Nat → Bool) (j : Nat) : kept g (j + 1) = kept g j ++ if g j then [] else [j] := by
  unfold kept
  rw [List.range_succ, List.filter_append]
  cases h : g j <;> simp [h]
theorem kept_le (g : Nat → Bool) (j : Nat) : (kept g j).length ≤ j := by
  have := List.length_filter_le (fun i => !g i) (List.range j)
  simpa [kept] using this
theorem kept_mem {g : Nat → Bool} {j i : Nat} (h : i ∈ kept g j) : i < j ∧ g i = false := by
  simpa [kept] using h
theorem kept_none {g : Nat → Bool} {k : Nat} (h : ∀ j, j < k → g j = false) : kept g k = List.range k := by
  unfold kept
  rw [List.filter_eq_self]
  intro i hi
  rw [h i (List.mem_range.1 hi)]
  rfl
theorem kept_first {g : Nat → Bool} {k : Nat} (h : ∀ j, j < k → g j = false) (hk : g k = true) : kept g (k + 1) = List.range k := by
  rw [kept_step, hk, kept_none h]
  simp
theorem map_range_getD (es : List Nat) (k : Nat) (h : k ≤ es.length) : (List.range k).map (es.getD · 0) = es.take k := by
  apply List.ext_getElem
  · simp; omega
  · intro i h1 h2
    simp at h1 h2
    simp [List.getD_eq_getElem?_getD, List.getElem?_eq_getElem (show i < es.length by omega)]
theorem filter_getD {α : Type} (l : List α) (d : α) (q : α → Bool) : ((List.range l.length).filter fun i => q (l.getD i d)).map (l.getD · d) = l.filter q := by
  have e : l = (List.range l.length).map (l.getD · d) := by
    apply List.ext_getElem
    · simp
    · intro i h1 h2
      simp [List.getD_eq_getElem?_getD, List.getElem?_eq_getElem h1]
  conv => rhs; rw [e]
  rw [List.filter_map]
  rfl
def rowL (es : List Nat) (g : Nat → Bool) (j : Nat) : List Nat := (kept g j).map (es.getD · 0) ++ es.drop (kept g j).length
theorem rowL_length (es : List Nat) (g : Nat → Bool) {j : Nat} (h : j ≤ es.length) : (rowL es g j).length = es.length := by
  have := kept_le g j
  simp [rowL]
  omega
theorem rowL_at (es : List Nat) (g : Nat → Bool) {j : Nat} (h : j < es.length) : (rowL es g j).getD j 0 = es.getD j 0 := by
  have := kept_le g j
  unfold rowL
  rw [List.getD_eq_getElem?_getD, List.getD_eq_getElem?_getD, List.getElem?_append_right (by rw [List.length_map]; omega), List.length_map, List.getElem?_drop]
  congr 2
  omega
theorem rowL_gone (es : List Nat) (g : Nat → Bool) {j : Nat} (hg : g j = true) : rowL es g (j + 1) = rowL es g j := by
  unfold rowL
  rw [kept_step, hg]
  simp
theorem rowL_keep (es : List Nat) (g : Nat → Bool) {j : Nat} (h : j < es.length) (hg : g j = false) : (rowL es g j).set (kept g j).length (es.getD j 0) = rowL es g (j + 1) := by
  have hl := kept_le g j
  unfold rowL
  rw [kept_step, hg, List.set_append_right _ _ (by rw [List.length_map]; omega), List.length_map, Nat.sub_self, List.drop_eq_getElem_cons (by omega : (kept g j).length < es.length), List.set_cons_zero]
  simp
theorem rowL_first (es : List Nat) {g : Nat → Bool} {k : Nat} (hk : k ≤ es.length) (h : ∀ j, j < k → g j = false) (hg : g k = true) : rowL es g (k + 1) = es ∧ (kept g (k + 1)).length = k := by
  have hf := kept_first h hg
  refine ⟨?_, by rw [hf]; simp⟩
  unfold rowL
  rw [hf, map_range_getD es k hk]
  simp
def ptrs (es : List Nat) : List Value := es.map fun b => .pointer (some ⟨b, 0, none⟩)
theorem ptrs_at (es : List Nat) {j : Nat} (h : j < es.length) : (ptrs es)[j]? = some (.pointer (some ⟨es.getD j 0, 0, none⟩)) := by
  simp [ptrs, List.getD_eq_getElem?_getD, List.getElem?_eq_getElem h]
theorem ptrs_set (es : List Nat) (j x : Nat) : (ptrs es).set j (.pointer (some ⟨x, 0, none⟩)) = ptrs (es.set j x) := by simp [ptrs, List.map_set]

/-! ### rows -/
theorem own_take {w : World} {base g m n c : Nat} {e : TypeId} {xs : List Value} (h : w.ownsRow base e 1 (.slice (some ⟨g, 0, none⟩) n c) n xs) (hm : m ≤ n) : w.ownsRow base e 1 (.slice (some ⟨g, 0, none⟩) m c) m (xs.take m) := by
  obtain ⟨hl, h0 | ⟨g', cap, cur, e1, hg, hh, hn, hc, hs, ht⟩⟩ := h
  · cases h0.1
  · injection e1 with e1 _ e3
    injection e1 with e1
    injection e1 with e1
    subst e1 e3
    refine ⟨by rw [List.length_take]; omega, .inr ⟨g, c, cur, rfl, hg, hh, by omega, hc, hs, ?_⟩⟩
    rw [← ht, List.take_take]
    congr 1
    omega
theorem own_cells {base g n c : Nat} {e : TypeId} : ∀ (vs : List Value) (o : Nat) (w : World) (xs : List Value), w.ownsRow base e 1 (.slice (some ⟨g, 0, none⟩) n c) n xs →
    ∃ ys, (w.setCells g o vs).ownsRow base e 1 (.slice (some ⟨g, 0, none⟩) n c) n ys ∧ ys.take o = xs.take o ∧ Keep (fun k => k = g) w (w.setCells g o vs)
  | [], o, w, xs, h => ⟨xs, h, rfl, Keep.refl _ _⟩
  | v :: vs, o, w, xs, h => by
    obtain ⟨ys, h1, h2, h3⟩ := own_cells vs (o + 1) _ _ (h.stored o v).1
    refine ⟨ys, h1, ?_, Keep.trans (keep_set (Keep.refl _ w) o v) h3⟩
    have := congrArg (List.take o) h2
    rw [List.take_take, List.take_take, Nat.min_eq_left (by omega)] at this
    rw [this, List.take_set_of_le (Nat.le_refl _)]
theorem zeroE (w : World) : (zeroValue 70).run Tryd.prog w = .ok (.pointer none) w := by kernel_rfl
theorem run_cutE_from (w : World) (g n c l : Nat) (hl : l ≤ n) (hc : l < c) :
    (Instr.sliceAt 61 (.slice (some ⟨g, 0, none⟩) n c) (some (.int .i64 (l : Int))) none none).run Tryd.prog w = .ok (.slice (some ⟨g, l, none⟩) (n - l) (c - l)) w := by
  have h1 : (0 : Int) ≤ l := by omega
  have h2 : (l : Int) ≤ n := by omega
  have h3 : ¬ c = l := by omega
  go_simp
theorem run_cutE_to (w : World) (A : Option Addr) (n c l : Nat) (hl : l ≤ c) :
    (Instr.sliceAt 61 (.slice A n c) none (some (.int .i64 (l : Int))) none).run Tryd.prog w = .ok (.slice A l c) w := by
  have h1 : (0 : Int) ≤ l := by omega
  have h2 : (l : Int) ≤ c := by omega
  go_simp

/-! ### the closure -/
theorem pred_any {w : World} {eb o : Nat} {e : ME} {x : MX} (h : w.heap[eb]? = some (.cells (ecells e x o).toArray 73 (0, 0))) (hf : FB Tryd.prog 3 4 w o (owedS e.owed) (e.owed.count true)) :
    Calls Tryd.prog 39 #[.pointer (some ⟨eb, 0, none⟩)] w fun ee w' => ee = .returned (.bool e.gone) ∧ w = w' := by
  have e11 : w.cell? ⟨eb, 11, none⟩ = some (.bool e.dropped) := (blk_cell h 11).trans rfl
  have e12 : w.cell? ⟨eb, 12, none⟩ = some (.map (some o)) := (blk_cell h 12).trans rfl
  have hln := hf.len (t := 71) Tryd.underlying71 3
  have hfr := e.free_dec
  obtain ⟨C, hC⟩ : ∃ C, e.owed.count true = C := ⟨_, rfl⟩
  rw [hC] at hln hfr
  have hg : e.gone = (e.dropped && decide (C = 0)) := by unfold ME.gone; rw [hfr]
  rw [hg]
  obtain ⟨d, hd⟩ : ∃ d, e.dropped = d := ⟨_, rfl⟩
  rw [hd] at e11 ⊢
  clear h hf hC hfr hg hd
  go_enter Tryd.func39, Tryd.ntmps39
  cases d with
  | false =>
    go_wp2_with fail
    go_ret
    exact ⟨rfl, rfl⟩
  | true =>
    go_wp2_with fail
    go_ret
    refine ⟨?_, rfl⟩
    by_cases h0 : C = 0
    · subst h0; rfl
    · simp [h0]
end Go.Proofs.YtnhajhejkecihaaDoor
/- Install: slices.IndexFunc, slices.DeleteFunc over the entries of a store. -/
namespace Go.Proofs.YtnhajhejkecihaaDoor
open Go.RowKit Go.Lib
set_option linter.unusedVariables false
set_option linter.unusedSimpArgs false

def goneAt (s : MS) (j : Nat) : Bool := (s.all.getD j ME.dflt).gone
def predF : Value := .func (.func 39) #[] #[]
set_option maxRecDepth 100000 in
set_option maxHeartbeats 4000000 in
theorem indexE_any {n : Nat} {w : World} {p : Nat} {r : SR} {s : MS} (h : IsStore n w p r s) :
    Calls Tryd.prog 60 #[.slice r.A s.all.length r.ac, predF] w fun e w' => w = w' ∧ ∃ v : Int, e = .returned (.int .i64 v) ∧ ((v = -1 ∧ ∀ j, j < s.all.length → goneAt s j = false) ∨ ∃ k : Nat, v = k ∧ k < s.all.length ∧ goneAt s k = true ∧ ∀ j, j < k → goneAt s j = false) := by
  have H := Lib.hid h
  have hN := h.inv.few
  clear h
  obtain ⟨N, hNN⟩ : ∃ N, s.all.length = N := ⟨_, rfl⟩
  have HN := Lib.hid hNN
  rw [hNN] at hN
  rw [hNN]
  clear hNN
  unfold predF
  go_enter Tryd.func60, Tryd.ntmps60
  go_wp2_with fail
  go_loop [8] (fun i => ∃ k : Nat, k ≤ N ∧ i = .int .i64 (k : Int) ∧ Hid (∀ j, j < k → goneAt s j = false)) (fun i => N + 1 - (RowKit.intOf i).toNat)
  case atStart => exact ⟨0, Nat.zero_le _, rfl, Lib.hid (fun j hj => absurd hj (by omega))⟩
  case round =>
    obtain ⟨k, hk, rfl, HH⟩ := hrel
    by_cases hlt : k < N
    · have hb : decide (k < N) = true := by simpa using hlt
      have hkN : k < s.all.length := by rw [HN.out]; exact hlt
      obtain ⟨g, hg, hp⟩ := H.out.ptr hkN
      obtain ⟨hc, hf⟩ := H.out.ents k hkN
      have HP := Lib.hid (pred_any hc hf)
      obtain ⟨eb, heb⟩ : ∃ eb, r.es.getD k 0 = eb := ⟨_, rfl⟩
      have hgo : goneAt s k = (s.all.getD k ME.dflt).gone := rfl
      rw [← hgo] at HP
      rw [heb] at hp HP
      rw [hg]
      obtain ⟨d, hd⟩ : ∃ d, goneAt s k = d := ⟨_, rfl⟩
      rw [hd] at HP
      have HD := Lib.hid hd
      clear hc hf heb hgo hd hg
      cases d with
      | true =>
        go_wp2_with fail
        ((with_reducible refine HP.out.mono ?_); rintro e w' ⟨rfl, rfl⟩)
        go_wp2_with fail
        go_ret
        exact ⟨rfl, _, rfl, .inr ⟨k, rfl, hlt, HD.out, HH.out⟩⟩
      | false =>
        go_wp2_with fail
        ((with_reducible refine HP.out.mono ?_); rintro e w' ⟨rfl, rfl⟩)
        have HE : Hid (∀ j, j < k + 1 → goneAt s j = false) := Lib.hid (fun j hj => by
          by_cases hjk : j = k
          · subst hjk; exact HD.out
          · exact HH.out j (by omega))
        go_wp2_with fail
        exact ⟨⟨k + 1, by omega, by go_num, HE⟩, by simp [RowKit.intOf]; omega⟩
    · have hb : decide (k < N) = false := by simpa using hlt
      obtain rfl : k = N := by omega
      go_wp2_with fail
      go_ret
      exact ⟨rfl, _, rfl, .inl ⟨rfl, HH.out⟩⟩
/-- The row of entries while DeleteFunc goes over it. -/
structure DL (w : World) (g N c : Nat) (xs : List Nat) (W : World) : Prop where
  row : W.ownsRow 0 70 1 (.slice (some ⟨g, 0, none⟩) N c) N (ptrs xs)
  keep : Keep (fun k => k = g) w W
theorem DL.set {w W : World} {g N c : Nat} {xs : List Nat} (h : DL w g N c xs W) (j x : Nat) : DL w g N c (xs.set j x) (W.setCell ⟨g, j, none⟩ (.pointer (some ⟨x, 0, none⟩))) :=
  ⟨by have := (h.row.stored j (.pointer (some ⟨x, 0, none⟩))).1; rwa [ptrs_set] at this, keep_set h.keep j _⟩
theorem DL.len {w W : World} {g N c : Nat} {xs : List Nat} (h : DL w g N c xs W) : xs.length = N := by have := h.row.1; simpa [ptrs] using this
theorem DL.cell {w W : World} {g N c : Nat} {xs : List Nat} (h : DL w g N c xs W) {j : Nat} (hj : j < N) : W.cell? ⟨g, j, none⟩ = some (.pointer (some ⟨xs.getD j 0, 0, none⟩)) := by
  rw [h.row.cellAt j (by omega), ptrs_at _ (by rw [h.len]; exact hj)]
set_option maxRecDepth 100000 in
set_option maxHeartbeats 4000000 in
theorem delE_any {n : Nat} {w : World} {p : Nat} {r : SR} {s : MS} (h : IsStore n w p r s) :
    Calls Tryd.prog 38 #[.slice r.A s.all.length r.ac, predF] w fun e w' => e = .returned (.slice r.A (kept (goneAt s) s.all.length).length r.ac) ∧
      w'.ownsRow 0 70 1 (.slice r.A (kept (goneAt s) s.all.length).length r.ac) (kept (goneAt s) s.all.length).length (ptrs ((kept (goneAt s) s.all.length).map (r.es.getD · 0))) ∧ Keep (fun k => ∃ a, r.A = some a ∧ k = a.block) w w' := by
  have H := Lib.hid h
  have hN := h.inv.few
  have HI := Lib.hid (indexE_any h)
  have hrow := h.row
  have hes := h.eslen
  clear h
  obtain ⟨N, hNN⟩ : ∃ N, s.all.length = N := ⟨_, rfl⟩
  have HN := Lib.hid hNN
  rw [hNN] at hN HI hrow hes
  rw [hNN]
  have HR := Lib.hid (And.intro hrow hes)
  clear hNN hrow hes
  unfold predF at *
  go_enter Tryd.func38, Tryd.ntmps38
  go_wp2_with fail
  ((with_reducible refine HI.out.mono ?_); rintro e w' ⟨rfl, v, rfl, hv⟩)
  clear HI
  rcases hv with ⟨rfl, hv⟩ | ⟨k, rfl, hkN, hgk, hlow⟩
  · have HV := Lib.hid hv
    clear hv
    go_wp2_with fail
    go_ret
    have hk : kept (goneAt s) N = List.range N := kept_none HV.out
    rw [hk, map_range_getD _ _ (by rw [HR.out.2]; omega), List.take_of_length_le (by rw [HR.out.2]; omega), List.length_range]
    exact ⟨rfl, HR.out.1, Keep.refl _ _⟩
  · obtain ⟨g, hg, _⟩ := H.out.ptr (i := k) (by rw [HN.out]; exact hkN)
    rw [hg]
    have hfst := rowL_first r.es (by rw [HR.out.2]; omega) hlow hgk
    have V0 : Hid (DL w g N r.ac (rowL r.es (goneAt s) (k + 1)) w) := Lib.hid ⟨by rw [hfst.1, ← hg]; exact HR.out.1, Keep.refl _ _⟩
    have HF := Lib.hid hfst.2
    have hcap : N ≤ r.ac := by
      have := HR.out.1
      rw [hg] at this
      rcases this.2 with ⟨h1, h2⟩ | ⟨g', cap, cur, h1, _, _, h2, _⟩
      · omega
      · injection h1 with _ _ h3
        omega
    have hlen := H.out.eslen
    have HG := Lib.hid (And.intro hg (And.intro hgk hlow))
    clear hg hgk hlow hfst hlen
    have hbk : ((k : Int) == -1) = false := by simp
    go_wp2_with fail
    try simp only [hbk]
    go_loopw [5, 6] (fun u i wr => ∃ j m : Nat, (k < j ∧ j ≤ N ∧ m < j) ∧ u = .int .i64 (m : Int) ∧ i = .int .i64 (j : Int) ∧ Hid ((kept (goneAt s) j).length = m) ∧ Hid (DL w g N r.ac (rowL r.es (goneAt s) j) wr)) (fun _ i _ => N + 1 - (RowKit.intOf i).toNat)
    case atStart => exact ⟨k + 1, k, by omega, rfl, by go_num, HF, V0⟩
    case round =>
      obtain ⟨j, m, hj, rfl, rfl, HM, VV⟩ := hrel
      obtain ⟨wo, rfl⟩ : ∃ wo : World, wo = wr := ⟨_, rfl⟩
      clear V0
      by_cases hlt : j < N
      · have hb : decide (j < N) = true := by simpa using hlt
        have q1 := VV.out.cell hlt
        rw [rowL_at r.es (goneAt s) (by rw [HR.out.2]; exact hlt)] at q1
        obtain ⟨hc, hf⟩ := H.out.ents j (by rw [HN.out]; exact hlt)
        have hrb : ∃ cur, w.heap[g]? = some (.cells cur 70 (0, 0)) := own_type HR.out.1 (by rw [HG.out.1]; rfl)
        obtain ⟨cur, hcur⟩ := hrb
        have hc2 := (VV.out.keep.block _ (blk_lt hc) (fun e => cells_ne hcur hc (by decide) e.symm)).trans hc
        have hf2 := hf.keep VV.out.keep (fun e => by
          obtain ⟨es', ck, hm⟩ := fb_map hf
          exact map_ne hcur hm e.symm)
        have HP := Lib.hid (pred_any hc2 hf2)
        have hgo : goneAt s j = (s.all.getD j ME.dflt).gone := rfl
        rw [← hgo] at HP
        obtain ⟨d, hd⟩ : ∃ d, goneAt s j = d := ⟨_, rfl⟩
        rw [hd] at HP
        have hks := kept_step (goneAt s) j
        cases d with
        | true =>
          rw [hd] at hks
          have VN := Lib.hid (show DL w g N r.ac (rowL r.es (goneAt s) (j + 1)) wo by rw [rowL_gone _ _ hd]; exact VV.out)
          have HM2 := Lib.hid (show (kept (goneAt s) (j + 1)).length = m by rw [hks]; simpa using HM.out)
          obtain ⟨eb, heb⟩ : ∃ eb, r.es.getD j 0 = eb := ⟨_, rfl⟩
          rw [heb] at q1 HP
          clear hc hf hcur hc2 hf2 hgo hd hks heb
          go_wp2_with fail
          ((with_reducible refine HP.out.mono ?_); rintro e w' ⟨rfl, rfl⟩)
          go_wp2_with fail
          exact ⟨⟨j + 1, m, by omega, rfl, by go_num, HM2, VN⟩, by simp [RowKit.intOf]; omega⟩
        | false =>
          rw [hd] at hks
          have hset := VV.out.set m (r.es.getD j 0)
          have hrk := rowL_keep r.es (goneAt s) (j := j) (by rw [HR.out.2]; exact hlt) hd
          rw [HM.out] at hrk
          rw [hrk] at hset
          have HM2 := Lib.hid (show (kept (goneAt s) (j + 1)).length = m + 1 by rw [hks]; simpa using HM.out)
          have q2 := VV.out.row.frozenAt m
          have q3 := VV.out.cell (j := m) (by omega)
          obtain ⟨eb, heb⟩ : ∃ eb, r.es.getD j 0 = eb := ⟨_, rfl⟩
          rw [heb] at q1 HP hset
          obtain ⟨eb2, heb2⟩ : ∃ eb, (rowL r.es (goneAt s) j).getD m 0 = eb := ⟨_, rfl⟩
          rw [heb2] at q3
          have VN := Lib.hid hset
          have hmN : m < N := by omega
          clear hc hf hcur hc2 hf2 hgo hd hks heb hset hrk heb2
          go_wp2_with fail
          ((with_reducible refine HP.out.mono ?_); rintro e w' ⟨rfl, rfl⟩)
          go_wp2_with fail
          exact ⟨⟨j + 1, m + 1, by omega, by go_num, by go_num, HM2, VN⟩, by simp [RowKit.intOf]; omega⟩
      · have hb : decide (j < N) = false := by simpa using hlt
        obtain rfl : j = N := by omega
        have hcf := fun W => run_cutE_from W g j r.ac m (by omega) (by omega)
        have hct := fun W => run_cutE_to W (some ⟨g, 0, none⟩) j r.ac m (by omega)
        have hclr : ∀ ty, (Builtin.clear_ #[61] ty #[.slice (some ⟨g, m, none⟩) (j - m) (r.ac - m)]).run Tryd.prog wo = .ok (.tuple #[]) (wo.setCells g m (List.replicate (j - m) (.pointer none))) := fun ty =>
          Lib.run_clear_slice (P := Tryd.prog) wo 61 70 ty (.pointer none) Tryd.underlying61 zeroE rfl rfl g m (j - m) (r.ac - m) (by omega) (fun i hi => by rw [VV.out.cell (j := m + i) (by omega)]; rfl) (fun i _ => VV.out.row.frozenAt (m + i))
        obtain ⟨ys, hy1, hy2, hy3⟩ := own_cells (List.replicate (j - m) (.pointer none)) m wo _ VV.out.row
        have hy4 := own_take hy1 (m := m) (by omega)
        rw [hy2] at hy4
        have hpt : (ptrs (rowL r.es (goneAt s) j)).take m = ptrs ((kept (goneAt s) j).map (r.es.getD · 0)) := by
          unfold ptrs rowL
          rw [← List.map_take, List.take_left' (by rw [List.length_map]; exact HM.out)]
        rw [hpt] at hy4
        obtain ⟨w3, hw3⟩ : ∃ w3, wo.setCells g m (List.replicate (j - m) (.pointer none)) = w3 := ⟨_, rfl⟩
        rw [hw3] at hclr hy3 hy4
        have HY := Lib.hid (And.intro hy4 (Keep.trans VV.out.keep hy3))
        clear hy1 hy2 hy3 hy4 hpt hw3
        go_wp2_with fail
        go_ret
        rw [HM.out, HG.out.1]
        exact ⟨rfl, HY.out.1, Keep.mono HY.out.2 (fun i e => ⟨_, rfl, e⟩)⟩
end Go.Proofs.YtnhajhejkecihaaDoor
/- Install: what Safe does to a store, plain and in memory. -/
namespace Go.Proofs.YtnhajhejkecihaaDoor
open Go.RowKit Go.Lib
set_option linter.unusedVariables false
set_option linter.unusedSimpArgs false

theorem getD_eq' {α : Type} (l : List α) (i : Nat) (d : α) (h : i < l.length) : l.getD i d = l[i] := by rw [List.getD_eq_getElem?_getD, List.getElem?_eq_getElem h]; rfl
/-- The first k entries have passed. -/
def MS.passing (s : MS) (c k : Nat) : MS := { s with all := (s.all.take k).map (ME.passed c) ++ s.all.drop k }
theorem passing_zero (s : MS) (c : Nat) : s.passing c 0 = s := by simp [MS.passing]
theorem passing_at (s : MS) (c k : Nat) (h : k < s.all.length) : (s.passing c k).all.getD k ME.dflt = s.all.getD k ME.dflt := by
  unfold MS.passing
  simp only
  rw [List.getD_eq_getElem?_getD, List.getD_eq_getElem?_getD, List.getElem?_append_right (by simp; omega), List.getElem?_drop]
  congr 2
  simp
  omega
theorem passing_length (s : MS) (c k : Nat) : (s.passing c k).all.length = s.all.length := by
  simp [MS.passing]
  omega
theorem passing_put (s : MS) (c k : Nat) (h : k < s.all.length) : (s.passing c k).put k ((s.all.getD k ME.dflt).passed c) = s.passing c (k + 1) := by
  unfold MS.passing MS.put
  simp only
  congr 1
  have hl : ((s.all.take k).map (ME.passed c)).length = k := by simp; omega
  rw [List.set_append_right _ _ (by omega), hl, Nat.sub_self, List.drop_eq_getElem_cons h, List.set_cons_zero, List.take_succ_eq_append_getElem h, List.map_append, getD_eq' _ _ _ h]
  simp
theorem passing_all (s : MS) (c : Nat) : s.passing c s.all.length = { s with all := s.all.map (ME.passed c) } := by simp [MS.passing]
theorem ME.passed_free {c : Nat} {e : ME} (h : e.owed.getD c false = false) : e.passed c = e := by
  have : e.owed.set c false = e.owed := by
    apply List.ext_getElem
    · simp
    · intro i h1 h2
      rw [List.getElem_set]
      split
      · rename_i hci
        subst hci
        rw [getD_eq' _ _ _ h2] at h
        exact h.symm
      · rfl
  unfold ME.passed
  rw [this]
theorem owedS_nat5 (l : List Bool) (c : Nat) : owedS l (c : Int) = l.getD c false := by simp [owedS]
theorem owedS_set (l : List Bool) (c : Nat) : (fun j : Int => !(j == (c : Int)) && owedS l j) = owedS (l.set c false) := by
  funext j
  unfold owedS
  by_cases hj : j = (c : Int)
  · subst hj
    by_cases hc : c < l.length
    · simp [List.getD_eq_getElem?_getD, hc]
    · simp [List.getD_eq_getElem?_getD, hc]
  · by_cases h0 : 0 ≤ j
    · have hne : c ≠ j.toNat := by omega
      simp [hj, h0, List.getD_eq_getElem?_getD, List.getElem?_set_ne hne]
    · simp [h0]
theorem count_set5 : ∀ (l : List Bool) (c : Nat), l.getD c false = true → (l.set c false).count true = l.count true - 1
  | [], c, h => by simp at h
  | b :: l, 0, h => by
    have hb : b = true := by simpa using h
    subst hb
    simp
  | b :: l, c + 1, h => by
    have hl : l.getD c false = true := by simpa using h
    have ih := count_set5 l c hl
    have hpos : 0 < l.count true := by
      rw [List.count_pos_iff]
      have hcl : c < l.length := by
        apply Classical.byContradiction
        intro hn
        rw [List.getD_eq_getElem?_getD, List.getElem?_eq_none (by omega)] at hl
        simp at hl
      rw [getD_eq' _ _ _ hcl] at hl
      exact hl ▸ List.getElem_mem hcl
    rw [List.set_cons_succ, List.count_cons, List.count_cons, ih]
    omega
/-- A processor has flushed a module. -/
theorem Coh.flushed {s : MS} {M : Bytes} {fs : List Cache} (h : Coh s M fs) {i c : Nat} (hi : i < s.all.length) (hc : c < fs.length) :
    Coh s M (fs.set c (cut (s.all.getD i ME.dflt).a (16 * (s.all.getD i ME.dflt).a + (s.all.getD i ME.dflt).bytes.length) (fs.getD c (fun _ => none)))) ∧
    Coh (s.put i ((s.all.getD i ME.dflt).passed c)) M (fs.set c (cut (s.all.getD i ME.dflt).a (16 * (s.all.getD i ME.dflt).a + (s.all.getD i ME.dflt).bytes.length) (fs.getD c (fun _ => none)))) := by
  obtain ⟨e, he⟩ : ∃ e, s.all.getD i ME.dflt = e := ⟨_, rfl⟩
  have hm : e ∈ s.all := he ▸ getD_mem hi
  rw [he]
  have old : ∀ c', c' < (fs.set c (cut e.a (16 * e.a + e.bytes.length) (fs.getD c (fun _ => none)))).length → ∀ x ∈ s.all, x.owed.getD c' false = false → ∀ k : Nat, x.a ≤ k → k < x.stop →
      ((fs.set c (cut e.a (16 * e.a + e.bytes.length) (fs.getD c (fun _ => none)))).getD c' (fun _ => none)) k = none ∨ ((fs.set c (cut e.a (16 * e.a + e.bytes.length) (fs.getD c (fun _ => none)))).getD c' (fun _ => none)) k = some (line M k) := fun c' hc' x hx hox k h1 h2 => by
    rw [List.length_set] at hc'
    by_cases hcc : c = c'
    · subst hcc
      rw [getD_set_self _ _ _ _ hc]
      unfold cut
      split
      · exact .inl rfl
      · exact h.cache c hc x hx hox k h1 h2
    · rw [getD_set_ne' _ _ _ _ _ hcc]
      exact h.cache c' hc' x hx hox k h1 h2
  refine ⟨⟨by rw [List.length_set]; exact h.len, h.mem, old⟩, ⟨by rw [List.length_set]; exact h.len, fun x hx => ?_, fun c' hc' x hx hox k h1 h2 => ?_⟩⟩
  · rcases List.mem_or_eq_of_mem_set hx with hx | rfl
    · exact h.mem x hx
    · exact h.mem e hm
  · rcases List.mem_or_eq_of_mem_set hx with hx | rfl
    · exact old c' hc' x hx hox k h1 h2
    · by_cases hcc : c = c'
      · subst hcc
        rw [getD_set_self _ _ _ _ hc]
        left
        unfold cut
        rw [if_pos]
        change k < e.a + lns e.bytes.length at h2
        unfold lns at h2
        have h1' : e.a ≤ k := h1
        omega
      · have ho2 : e.owed.getD c' false = false := by
          have : (e.owed.set c false).getD c' false = false := hox
          rwa [getD_set_ne' _ _ _ _ _ hcc] at this
        exact old c' hc' e hm ho2 k h1 h2
section
variable {n : Nat} {w w' : World} {p : Nat} {r : SR} {s : MS}
/-- The map of an entry is turned. -/
theorem IsStore.unowe (h : IsStore n w p r s) {i : Nat} (hi : i < s.all.length) (e : ME) (he : e = { s.all.getD i ME.dflt with owed := e.owed }) (hf : FB Tryd.prog 3 4 w' (r.os.getD i 0) (owedS e.owed) (e.owed.count true))
    (hk : Keep (fun k => k = r.os.getD i 0) w w') (hinv : (s.put i e).Inv) {M : Bytes} {fs : List Cache} (hb : IsBoard w r.bb r.br M fs) (hco : Coh (s.put i e) M fs) : IsStore n w' p r (s.put i e) := by
  have hio : i < r.os.length := by rw [h.oslen.1]; exact hi
  have hom : r.os.getD i 0 ∈ r.os := getD_mem hio
  obtain ⟨es, ck, hoc⟩ := h.os_map hom
  have hl : (s.put i e).all.length = s.all.length := by simp [MS.put]
  have far : ∀ {k : Nat} {cs : Array Value} {t : TypeId}, w.heap[k]? = some (.cells cs t (0, 0)) → k ≠ r.os.getD i 0 := fun hcc => map_ne hcc hoc
  have hmaps := List.nodup_append.1 h.maps
  have hrow := hk.own h.row (fun k e' => by obtain ⟨c, hcc⟩ := own_type h.row e'; exact far hcc)
  refine ⟨by rw [hl]; exact (hk.block p (blk_lt h.hdr) (far h.hdr)).trans h.hdr, ⟨M, fs, hb.keep hk (fun q hq => ?_), hco⟩, hk.own h.inn (fun k e' => ?_), by rw [hl]; exact hrow, fun j hj => ?_, h.esN, h.maps, ⟨by rw [hl]; exact h.oslen.1, by rw [hl]; exact h.oslen.2⟩, h.low, hinv⟩
  · rcases hq with rfl | rfl | rfl | hq
    · exact far hb.hdr
    · obtain ⟨c, hcc⟩ := own_type hb.mem (k := r.br.mb) rfl
      exact far hcc
    · obtain ⟨c, hcc⟩ := own_type hb.caches (k := r.br.cb) rfl
      exact far hcc
    · exact hmaps.2.2 q hq _ hom
  · obtain ⟨c, hcc⟩ := own_type h.inn e'
    exact far hcc
  · rw [hl] at hj
    obtain ⟨hc1, hf1⟩ := h.ents j hj
    have hcell := (hk.block _ (blk_lt hc1) (far hc1)).trans hc1
    by_cases hij : i = j
    · subst hij
      have e1 : (s.put i e).all.getD i ME.dflt = e := getD_set_self _ _ _ _ hi
      rw [e1]
      refine ⟨?_, hf⟩
      rw [hcell, he]
      rfl
    · have e1 : (s.put i e).all.getD j ME.dflt = s.all.getD j ME.dflt := getD_set_ne' _ _ _ _ _ hij
      rw [e1]
      exact ⟨hcell, hf1.keep hk (nodup_ne hmaps.2.1 (by rw [h.oslen.1]; exact hj) hio (fun e => hij e.symm))⟩
end
theorem kept_sub (g : Nat → Bool) (N : Nat) {α : Type} (l : List α) (d : α) (h : l.length = N) : ((kept g N).map (l.getD · d)).Sublist l := by
  have e : l = (List.range N).map (l.getD · d) := by
    apply List.ext_getElem
    · simp [h]
    · intro i h1 h2
      rw [List.getElem_map, List.getElem_range, getD_eq' _ _ _ h1]
  conv => rhs; rw [e]
  exact List.Sublist.map _ (by unfold kept; exact List.filter_sublist)
theorem kept_all (s : MS) : (kept (goneAt s) s.all.length).map (s.all.getD · ME.dflt) = s.all.filter fun e => !e.gone := filter_getD s.all ME.dflt (fun e => !e.gone)
theorem MS.Inv.sub {s : MS} (h : s.Inv) {l : List ME} (hl : l.Sublist s.all) : ({ s with all := l } : MS).Inv :=
  ⟨h.cpus, fun e he => h.size e (hl.subset he), fun e he => h.owed e (hl.subset he), fun e he => h.ids e (hl.subset he), h.apart.sublist hl, Nat.le_trans hl.length_le h.few, h.next, h.inn⟩
theorem Coh.sub {s : MS} {M : Bytes} {fs : List Cache} (h : Coh s M fs) {l : List ME} (hl : l.Sublist s.all) : Coh { s with all := l } M fs :=
  ⟨h.len, fun e he => h.mem e (hl.subset he), fun c hc e he => h.cache c hc e (hl.subset he)⟩
section
variable {n : Nat} {w w1 : World} {p : Nat} {r : SR} {s : MS}
/-- Entries are left away; the row is new, the header is set. -/
theorem IsStore.sieved (h : IsStore n w p r s) {A : Option Addr} {ac : Nat} (ix : List Nat) (hix : ∀ i ∈ ix, i < s.all.length)
    (sub : ∀ {α : Type} (l : List α) (d : α), l.length = s.all.length → (ix.map (l.getD · d)).Sublist l)
    (hrow : w1.ownsRow 0 70 1 (.slice r.A ix.length r.ac) ix.length (ptrs (ix.map (r.es.getD · 0)))) (hk : Keep (fun k => ∃ a, r.A = some a ∧ k = a.block) w w1) :
    IsStore n (w1.setCell ⟨p, 2, none⟩ (.slice r.A ix.length r.ac)) p { r with es := ix.map (r.es.getD · 0), os := ix.map (r.os.getD · 0), xs := ix.map (r.xs.getD · MX.dflt) } { s with all := ix.map (s.all.getD · ME.dflt) } := by
  obtain ⟨M, fs, hb, hc⟩ := h.board
  have rowAt : ∀ a, r.A = some a → ∃ cs, w.heap[a.block]? = some (.cells cs 70 (0, 0)) := fun a ha => own_type h.row (by rw [ha]; rfl)
  have far : ∀ {k : Nat} {cs : Array Value} {t : TypeId}, w.heap[k]? = some (.cells cs t (0, 0)) → t ≠ 70 → ¬ ∃ a, r.A = some a ∧ k = a.block := fun hcc ht ⟨a, ha, e⟩ => by
    obtain ⟨cs, hcs⟩ := rowAt a ha
    exact cells_ne hcc hcs ht e
  have hp := (hk.block p (blk_lt h.hdr) (far h.hdr (by decide))).trans h.hdr
  have ks := keep_set (Keep.refl (fun k => k = p) w1) 2 (.slice r.A ix.length r.ac)
  have farm : ∀ {k : Nat} {es : Array MapEntry} {ck : Nat}, w.heap[k]? = some (.map es ck) → ¬ ∃ a, r.A = some a ∧ k = a.block := fun hcc ⟨a, ha, e⟩ => by
    obtain ⟨cs, hcs⟩ := rowAt a ha
    exact map_ne hcs hcc e.symm
  have kb : ∀ {k : Nat} {o : Obj}, w.heap[k]? = some o → (¬ ∃ a, r.A = some a ∧ k = a.block) → k ≠ p → (w1.setCell ⟨p, 2, none⟩ (.slice r.A ix.length r.ac)).heap[k]? = some o := fun hcc h1 h2 => by
    have h3 := (hk.block _ (blk_lt hcc) h1).trans hcc
    exact (ks.block _ (blk_lt h3) h2).trans h3
  have hl1 : (ix.map (s.all.getD · ME.dflt)).length = ix.length := List.length_map ..
  have hsub := sub s.all ME.dflt rfl
  have hpb : ∀ k, r.br.foot r.bb k → k ≠ p := board_far hb h.hdr (by decide) (by decide) (by decide)
  refine ⟨?_, ⟨M, fs, ?_, hc.sub hsub⟩, ?_, ?_, fun i hi => ?_, (sub r.es 0 h.eslen).nodup h.esN, (((List.Sublist.refl r.br.ms).append (sub r.os 0 h.oslen.1)).nodup h.maps), by simp, fun k hkf => ?_, h.inv.sub hsub⟩
  · have := blk_set hp 2 (.slice r.A ix.length r.ac)
    rw [this]
    simp only [hl1]
    rfl
  · refine IsBoard.keep (IsBoard.keep hb hk (fun k hkf => ?_)) ks hpb
    rcases hkf with rfl | rfl | rfl | hq
    · exact far hb.hdr (by decide)
    · obtain ⟨c, hcc⟩ := own_type hb.mem (k := r.br.mb) rfl
      exact far hcc (by decide)
    · obtain ⟨c, hcc⟩ := own_type hb.caches (k := r.br.cb) rfl
      exact far hcc (by decide)
    · obtain ⟨es, ck, hm⟩ := hb.mem_map hq
      exact farm hm
  · have h1 := hk.own h.inn (fun k e' => by obtain ⟨c, hcc⟩ := own_type h.inn e'; exact far hcc (by decide))
    exact ks.own h1 (fun k e' => by obtain ⟨c, hcc⟩ := own_type h1 e'; exact cells_ne hcc hp (by decide))
  · simp only [hl1]
    exact ks.own hrow (fun k e' => by obtain ⟨c, hcc⟩ := own_type hrow e'; exact cells_ne hcc hp (by decide))
  · have hi' : i < ix.length := by simpa using hi
    have hj : ix.getD i 0 < s.all.length := hix _ (getD_mem hi')
    have gm : ∀ {α : Type} (f : Nat → α) (d : α), (ix.map f).getD i d = f (ix.getD i 0) := fun f d => by
      rw [getD_eq' _ _ _ (by simpa using hi'), getD_eq' _ _ _ hi', List.getElem_map]
    obtain ⟨hc1, hf1⟩ := h.ents _ hj
    simp only [gm]
    refine ⟨kb hc1 (far hc1 (by decide)) (cells_ne hc1 h.hdr (by decide)), ?_⟩
    obtain ⟨es, ck, hm⟩ := fb_map hf1
    exact (hf1.keep hk (farm hm)).keep ks (fun e' => map_ne h.hdr hm e'.symm)
  · refine h.low k ?_
    rcases hkf with hk1 | hk1 | hk1 | hk1 | hk1 | hk1
    · exact .inl hk1
    · exact .inr (.inl hk1)
    · exact .inr (.inr (.inl hk1))
    · exact .inr (.inr (.inr (.inl hk1)))
    · exact .inr (.inr (.inr (.inr (.inl ((sub r.es 0 h.eslen).subset hk1)))))
    · exact .inr (.inr (.inr (.inr (.inr ((sub r.os 0 h.oslen.1).subset hk1)))))
end
end Go.Proofs.YtnhajhejkecihaaDoor
/- Install: Safe. -/
namespace Go.Proofs.YtnhajhejkecihaaDoor
open Go.RowKit Go.Lib
set_option linter.unusedVariables false
set_option linter.unusedSimpArgs false

set_option maxRecDepth 100000 in
set_option maxHeartbeats 4000000 in
theorem safe_busy {n : Nat} {w : World} {p : Nat} {r : SR} {s : MS} (h : IsStore n w p r s) {c : Nat} (hc : c < s.inn.length) (hin : 0 ≤ s.inn.getD c 0) : Calls Tryd.prog 19 #[.pointer (some ⟨p, 0, none⟩), .int .i64 c] w fun e w' => e = .returned (.int .i64 41) ∧ w = w' := by
  have HC := Lib.hid (closed_any h)
  have HP := Lib.hid (cpu_any h c hc)
  have c1 := h.c1
  obtain ⟨q0, q1⟩ := h.innc hc
  obtain ⟨v, hv⟩ : ∃ v, s.inn.getD c 0 = v := ⟨_, rfl⟩
  rw [hv] at q0 hin
  have hb : decide (c < s.inn.length) = true := by simpa using hc
  have hneg : decide (0 ≤ v) = true := by simp; omega
  clear h hv
  go_enter Tryd.func19, Tryd.ntmps19
  go_wp2_with fail
  ((with_reducible refine HC.out.mono ?_); rintro e w' ⟨rfl, rfl⟩)
  go_wp2_with fail
  ((with_reducible refine HP.out.mono ?_); rintro e w' ⟨rfl, rfl⟩)
  clear HC HP
  go_wp2_with fail
  go_ret
  exact ⟨rfl, rfl⟩
/-- A store while Safe goes over it. -/
structure SV (n : Nat) (w0 : World) (p : Nat) (r : SR) (s : MS) (W : World) : Prop where
  st : IsStore n W p r s
  since : Keep (r.foot p) w0 W
theorem SV.draw {n : Nat} {w0 : World} {p : Nat} {r : SR} {s : MS} {W : World} (h : SV n w0 p r s W) : SV n w0 p r s W.drew :=
  ⟨h.st.quiet (keep_draw (fun _ => False) W), Keep.trans h.since (keep_draw _ W)⟩
theorem passed_inv {s : MS} (h : s.Inv) {k : Nat} (hk : k < s.all.length) (c : Nat) : (s.put k ((s.all.getD k ME.dflt).passed c)).Inv :=
  s.put_inv h hk _ rfl rfl rfl (by
    show ((s.all.getD k ME.dflt).owed.set c false).length = _
    rw [List.length_set]
    exact h.owed _ (getD_mem hk))
set_option maxRecDepth 100000 in
set_option maxHeartbeats 4000000 in
theorem safe_any {n : Nat} {w : World} {p : Nat} {r : SR} {s : MS} (h : IsStore n w p r s) {c : Nat} (hc : c < s.inn.length) (hin : s.inn.getD c 0 < 0) : Calls Tryd.prog 19 #[.pointer (some ⟨p, 0, none⟩), .int .i64 c] w fun e w' => e = .returned (.int .i64 0) ∧ ∃ r', IsStore n w' p r' (s.passed c) ∧ Keep (r.foot p) w w' ∧ ∀ k, r'.foot p k → r.foot p k ∨ w.heap.size ≤ k := by
  have HC := Lib.hid (closed_any h)
  have HP := Lib.hid (cpu_any h c hc)
  have c1 := h.c1
  have c2 := h.c2
  have hN := h.inv.few
  obtain ⟨q0, q1⟩ := h.innc hc
  obtain ⟨v, hv⟩ : ∃ v, s.inn.getD c 0 = v := ⟨_, rfl⟩
  rw [hv] at q0 hin
  have hb : decide (c < s.inn.length) = true := by simpa using hc
  have hneg : decide (0 ≤ v) = false := by simp; omega
  have H := Lib.hid (And.intro h (And.intro hc h.inv.cpus.2))
  obtain ⟨N, hNN⟩ : ∃ N, s.all.length = N := ⟨_, rfl⟩
  have HN := Lib.hid hNN
  rw [hNN] at c2 hN
  clear h hv hNN
  go_enter Tryd.func19, Tryd.ntmps19
  go_wp2_with fail
  ((with_reducible refine HC.out.mono ?_); rintro e w' ⟨rfl, rfl⟩)
  go_wp2_with fail
  ((with_reducible refine HP.out.mono ?_); rintro e w' ⟨rfl, rfl⟩)
  clear HC HP
  go_wp2_with fail
  clear c1 c2 q0 q1 hb hneg
  have V0 : Hid (SV n w p r (s.passing c 0) w) := Lib.hid ⟨by rw [passing_zero]; exact H.out.1, Keep.refl _ _⟩
  go_loopw [30] (fun i wr => ∃ k : Nat, k ≤ N ∧ i = .int .i64 (k : Int) ∧ Hid (SV n w p r (s.passing c k) wr)) (fun i _ => N + 1 - (RowKit.intOf i).toNat)
  case atStart => exact ⟨0, Nat.zero_le _, rfl, V0⟩
  case round =>
    obtain ⟨k, hk, rfl, VV⟩ := hrel
    obtain ⟨wo, rfl⟩ : ∃ wo : World, wo = wr := ⟨_, rfl⟩
    clear V0
    by_cases hlt : k < N
    · have hbk : decide (k < N) = true := by simpa using hlt
      have hkN : k < s.all.length := by rw [HN.out]; exact hlt
      have hkP : k < (s.passing c k).all.length := by rw [passing_length]; exact hkN
      have hat := passing_at s c k hkN
      have hst := VV.out.st
      obtain ⟨g, hg, hp⟩ := hst.ptr hkP
      have hfb := (hst.ents k hkP).2
      have e1 := hst.ecell hkP 1
      have e4 := hst.ecell hkP 4
      have e12 := hst.ecell hkP 12
      have c0 := hst.c0
      have hsz := H.out.1.inv.size _ (getD_mem (x := ME.dflt) hkN)
      rw [hat] at hfb e1 e4 e12
      obtain ⟨eb, heb⟩ : ∃ eb, r.es.getD k 0 = eb := ⟨_, rfl⟩
      obtain ⟨e, he⟩ : ∃ e, s.all.getD k ME.dflt = e := ⟨_, rfl⟩
      obtain ⟨o, ho⟩ : ∃ o, r.os.getD k 0 = o := ⟨_, rfl⟩
      rw [he] at hfb e1 e4 e12 hsz
      rw [heb] at e1 e4 e12 hp
      rw [ho] at hfb e12
      replace e1 : wo.cell? ⟨eb, 1, none⟩ = some (.int .i64 ((16 * e.a : Nat) : Int)) := e1.trans rfl
      replace e4 : wo.cell? ⟨eb, 4, none⟩ = some (.string (sb e.bytes)) := e4.trans rfl
      replace e12 : wo.cell? ⟨eb, 12, none⟩ = some (.map (some o)) := e12.trans rfl
      have hlk := hfb.look (t := 71) Tryd.underlying3 Tryd.underlying71 Tryd.underlying4 (by kernel_rfl) (i := (c : Int)) (wf64 (by have := H.out.2; omega))
      rw [owedS_nat] at hlk
      rw [hg]
      have HE := Lib.hid (And.intro he (And.intro heb ho))
      obtain ⟨d, hd⟩ : ∃ d, e.owed.getD c false = d := ⟨_, rfl⟩
      rw [hd] at hlk
      cases d with
      | false =>
        have hps := passing_put s c k hkN
        rw [he, ME.passed_free hd] at hps
        have VN : Hid (SV n w p r (s.passing c (k + 1)) wo) := by
          rw [← hps]
          have : (s.passing c k).put k e = s.passing c k := by
            unfold MS.put
            have h2 : (s.passing c k).all.set k e = (s.passing c k).all := by
              rw [← he, ← hat, getD_eq' _ _ _ hkP, List.set_getElem_self]
            rw [h2]
          rw [this]
          exact VV
        clear hps hd he heb ho hat hfb hst hg hsz
        go_wp2_with fail
        exact ⟨⟨k + 1, by omega, by go_num, VN⟩, by simp [RowKit.intOf]; omega⟩
      | true =>
        obtain ⟨L, hL⟩ : ∃ L, e.bytes.length = L := ⟨_, rfl⟩
        have hss : (sb e.bytes).size = L := by rw [sb_size, hL]
        obtain ⟨a, ha⟩ : ∃ a, e.a = a := ⟨_, rfl⟩
        have hst2 : 16 * a + L ≤ 4096 := by
          have h2 := hsz.2
          change e.a + lns e.bytes.length ≤ 256 at h2
          rw [hL, ha] at h2
          unfold lns at h2
          omega
        have HFL : Hid (Calls Tryd.prog 37 #[.pointer (some ⟨r.bb, 0, none⟩), .int .i64 c, .int .i64 ((16 * a : Nat) : Int), .int .i64 L] wo.drew fun ee w' => ee = .returned (.int .i64 0) ∧
            ∃ w2 : TypeId → World, (∀ ty, (Builtin.delete_ #[71, 3] ty #[.map (some o), .int .i64 c]).run Tryd.prog w' = .ok (.tuple #[]) (w2 ty) ∧ SV n w p r (s.passing c (k + 1)) (w2 ty)) ∧ w'.cell? ⟨eb, 12, none⟩ = some (.map (some o))) := by
          obtain ⟨M, fs, hbd, hco⟩ := VV.out.draw.st.board
          have hfl : c < fs.length := by rw [hco.len]; exact H.out.2.1
          refine Lib.hid ((flush_any hbd c a L hfl hst2).mono ?_)
          rintro ee w' ⟨rfl, hb2, hk2⟩
          have hm0 : r.br.ms.getD c 0 ∈ r.br.ms := getD_mem (by rw [hbd.msl]; exact hfl)
          have hfs := hco.flushed hkP hfl
          rw [hat, he, hL, ha] at hfs
          have st2 := VV.out.draw.st.turnBoard hb2 hfs.1 hk2 (.inr hm0)
          have sc2 : Keep (r.foot p) w w' := Keep.trans VV.out.draw.since (Keep.mono hk2 (fun i hi => by rw [hi]; exact .inr (.inl (.inr (.inr (.inr hm0))))))
          have hf2 := (st2.ents k hkP).2
          have e12b := st2.ecell hkP 12
          rw [hat, he, ho] at hf2
          rw [hat, he, heb, ho] at e12b
          have hdel := fun ty => hf2.del (t := 71) Tryd.underlying3 Tryd.underlying71 (i := (c : Int)) (wf64 (by have := H.out.2; omega)) ty
          refine ⟨rfl, fun ty => (hdel ty).choose, fun ty => ⟨(hdel ty).choose_spec.1, ?_⟩, e12b.trans rfl⟩
          obtain ⟨_, hfd, hkd⟩ := (hdel ty).choose_spec
          show SV n w p r (s.passing c (k + 1)) (hdel ty).choose
          obtain ⟨wx, hwx⟩ : ∃ wx, (hdel ty).choose = wx := ⟨_, rfl⟩
          rw [hwx] at hfd hkd ⊢
          rw [owedS_nat, hd, if_pos rfl, owedS_set, ← count_set5 _ _ hd] at hfd
          have hpi := passed_inv VV.out.st.inv hkP c
          rw [hat, he] at hpi
          have hps := passing_put s c k hkN
          rw [he] at hps
          have un := st2.unowe hkP (e.passed c) (by rw [hat, he]; rfl) (by rw [ho]; exact hfd) (by rw [ho]; exact hkd) hpi hb2 hfs.2
          rw [hps] at un
          exact ⟨un, Keep.trans sc2 (Keep.mono hkd (fun i hi => by rw [hi, ← ho]; exact .inr (.inr (.inr (.inr (.inr (getD_mem (by rw [VV.out.st.oslen.1]; exact hkP))))))))⟩
        rw [ha] at e1
        obtain ⟨A16, hA16⟩ : ∃ A16 : Int, ((16 * a : Nat) : Int) = A16 := ⟨_, rfl⟩
        rw [hA16] at e1 HFL
        obtain ⟨sv, hsv⟩ : ∃ sv, sb e.bytes = sv := ⟨_, rfl⟩
        rw [hsv] at e4 hss
        clear hd he heb ho hat hfb hst hg hsz hL ha hst2 hA16 hsv
        go_wp2_with fail
        go_still_tail 15, (by kernel_rfl)
        change wpList _ _ _ _ _ wo.drew
        have y0 : wo.drew.cell? ⟨p, 0, none⟩ = _ := c0
        have y1 : wo.drew.cell? ⟨eb, 1, none⟩ = _ := e1
        have y4 : wo.drew.cell? ⟨eb, 4, none⟩ = _ := e4
        clear c0 e1 e4 e12 hlk hp
        obtain ⟨wd, hwd⟩ : ∃ wd, wo.drew = wd := ⟨_, rfl⟩
        rw [hwd] at y0 y1 y4 HFL ⊢
        clear hwd
        go_wp2_with fail
        ((with_reducible refine HFL.out.mono ?_); rintro ee w1 ⟨rfl, w2, hdl, e12⟩)
        have hrun := fun ty => (hdl ty).1
        have HS := Lib.hid (fun ty => (hdl ty).2)
        clear hdl HFL y0 y1 y4
        go_wp2_with fail
        exact ⟨⟨k + 1, by omega, by go_num, Lib.hid (HS.out _)⟩, by simp [RowKit.intOf]; omega⟩
    · have hbk : decide (k < N) = false := by simpa using hlt
      obtain rfl : k = N := by omega
      have hs1 : s.passing c k = { s with all := s.all.map (ME.passed c) } := by rw [← HN.out]; exact passing_all s c
      have hst := VV.out.st
      rw [hs1] at hst
      obtain ⟨s1, hs1'⟩ : ∃ s1 : MS, ({ s with all := s.all.map (ME.passed c) } : MS) = s1 := ⟨_, rfl⟩
      have hfin : s.passed c = { s1 with all := (kept (goneAt s1) s1.all.length).map (s1.all.getD · ME.dflt) } := by
        rw [kept_all, ← hs1']
        rfl
      have hl1 : s1.all.length = k := by rw [← hs1', ← HN.out]; simp
      rw [hs1'] at hst
      have HD := Lib.hid (delE_any hst)
      have c2 := hst.c2
      have f2 := blk_free hst.hdr 2
      rw [hl1] at HD c2
      have HFIN := Lib.hid hfin
      have HS := Lib.hid (And.intro hst hl1)
      have HV := Lib.hid VV.out.since
      obtain ⟨m, hm⟩ : ∃ m, (kept (goneAt s1) k).length = m := ⟨_, rfl⟩
      rw [hm] at HD
      have HM := Lib.hid hm
      unfold predF at HD
      clear hst hs1 hs1' hfin VV hl1 hm
      go_wp2_with fail
      ((with_reducible refine HD.out.mono ?_); rintro e w2 ⟨rfl, hrow, hk2⟩)
      obtain ⟨hst, hl1⟩ := HS.out
      have c2' : ∃ u, w2.cell? ⟨p, 2, none⟩ = some u ∧ w2.frozen? ⟨p, 2, none⟩ = false := by
        have far : ¬ ∃ a, r.A = some a ∧ p = a.block := fun ⟨a, ha, e⟩ => by
          obtain ⟨cs, hcs⟩ := own_type hst.row (k := a.block) (by rw [ha]; rfl)
          exact cells_ne hst.hdr hcs (by decide) e
        have hp := (hk2.block p (blk_lt hst.hdr) far).trans hst.hdr
        exact ⟨_, (blk_cell hp 2).trans rfl, blk_free hp 2⟩
      obtain ⟨u2, c22, f22⟩ := c2'
      have hsv := hst.sieved (A := r.A) (ac := r.ac) (w1 := w2) (kept (goneAt s1) s1.all.length) (fun i hi => (kept_mem hi).1) (fun l d hl => kept_sub (goneAt s1) _ l d hl) (by rw [hl1, HM.out]; rw [hl1] at *; exact hrow) hk2
      have hln : (kept (goneAt s1) s1.all.length).length = m := by rw [hl1]; exact HM.out
      rw [hln] at hsv
      have HF := Lib.hid (And.intro hsv (Keep.trans HV.out (Keep.trans (Keep.mono hk2 (F' := r.foot p) (fun i ⟨a, ha, e⟩ => .inr (.inr (.inr (.inl ⟨a, ha, e⟩))))) (Keep.mono (keep_set (Keep.refl (fun k => k = p) w2) 2 (.slice r.A m r.ac)) (fun i hi => .inl hi)))))
      clear hsv hrow hk2 hst c2 f2
      go_wp2_with fail
      go_ret
      have hfx := HF.out.1
      rw [← HFIN.out] at hfx
      refine ⟨rfl, _, hfx, HF.out.2, fun k hk => .inl ?_⟩
      rcases hk with h1 | h1 | h1 | h1 | h1 | h1
      · exact .inl h1
      · exact .inr (.inl h1)
      · exact .inr (.inr (.inl h1))
      · exact .inr (.inr (.inr (.inl h1)))
      · exact .inr (.inr (.inr (.inr (.inl ((kept_sub (goneAt s1) _ r.es 0 HS.out.1.eslen).subset h1)))))
      · exact .inr (.inr (.inr (.inr (.inr ((kept_sub (goneAt s1) _ r.os 0 HS.out.1.oslen.1).subset h1)))))
end Go.Proofs.YtnhajhejkecihaaDoor
/- Install: what Add does to a store, plain and in memory. -/
namespace Go.Proofs.YtnhajhejkecihaaDoor
open Go.RowKit Go.Lib
set_option linter.unusedVariables false
set_option linter.unusedSimpArgs false

/-- Where the next module would begin. -/
def MS.place (s : MS) (L : Nat) : Option Nat := seek (takenB s.all) L 256 0 0
theorem place_free {s : MS} {L a : Nat} (hL : 0 < L) (h : s.place L = some a) : a + lns L ≤ 256 ∧ ∀ e ∈ s.all, 0 < e.bytes.length → e.stop ≤ a ∨ a + lns L ≤ e.a := by
  have h1 := seek_spec (takenB s.all) L hL 256 0 0 a (by omega) (fun i _ h => by omega) (by omega) h
  refine ⟨by omega, fun e he h0 => ?_⟩
  apply Classical.byContradiction
  intro hn
  have hs : e.stop = e.a + lns e.bytes.length := rfl
  have hp : 0 < lns e.bytes.length := by unfold lns; omega
  have hp2 : 0 < lns L := by unfold lns; omega
  have key : ∀ i, a ≤ i → i < a + lns L → ¬ (e.a ≤ i ∧ i < e.stop) := fun i h2 h3 h4 => by
    have := h1.2 i h2 h3
    unfold takenB at this
    rw [List.any_eq_false] at this
    have := this e he
    simp [ME.on] at this
    omega
  by_cases hc : e.a ≤ a
  · exact key a (by omega) (by omega) (by omega)
  · exact key e.a (by omega) (by omega) (by omega)
theorem added_inv {s : MS} (h : s.Inv) {b : Bytes} {a : Nat} (hb : 0 < b.length) (hp : s.place b.length = some a) (hf : s.all.length < 16) (hn : s.next < 1000000) : (s.added b a).Inv := by
  obtain ⟨h1, h2⟩ := place_free hb hp
  have all : ∀ {P : ME → Prop}, (∀ x ∈ s.all, P x) → P ⟨s.next, a, b, false, s.owing⟩ → ∀ x ∈ (s.added b a).all, P x := fun g1 g2 x hx => by
    rcases List.mem_append.1 hx with hx | hx
    · exact g1 x hx
    · rw [List.mem_singleton.1 hx]; exact g2
  refine ⟨h.cpus, all h.size ⟨hb, h1⟩, all h.owed (by simp [MS.owing]; rfl), all (fun x hx => Nat.lt_succ_of_lt (h.ids x hx)) (Nat.lt_succ_self _), ?_, by simp [MS.added]; omega, by simp [MS.added]; omega, fun v hv => ?_⟩
  · show List.Pairwise _ (s.all ++ [_])
    rw [List.pairwise_append]
    refine ⟨h.apart, by simp, fun x hx y hy => ?_⟩
    rw [List.mem_singleton.1 hy]
    have := h.ids x hx
    refine ⟨by show x.id ≠ s.next; omega, ?_⟩
    exact h2 x hx (h.size x hx).1
  · have := h.inn v hv
    exact ⟨this.1, by show v < ((s.next + 1 : Nat) : Int); omega⟩
/-- The memory behind a Write. -/
def wrote (M : Bytes) (addr : Nat) (b : Bytes) : Bytes := M.take addr ++ (b ++ M.drop (addr + b.length))
theorem wrote_new {M b : Bytes} {addr : Nat} (h : addr ≤ M.length) : ((wrote M addr b).drop addr).take b.length = b := by
  unfold wrote
  rw [List.drop_left' (by rw [List.length_take]; omega), List.take_left' rfl]
theorem wrote_old {M b : Bytes} {addr : Nat} (h : addr + b.length ≤ M.length) {x n : Nat} (hx : x + n ≤ addr ∨ addr + b.length ≤ x) : ((wrote M addr b).drop x).take n = (M.drop x).take n := by
  have hl : (M.take addr).length = addr := by rw [List.length_take]; omega
  unfold wrote
  rcases hx with hx | hx
  · rw [List.drop_append_of_le_length (by omega), List.take_append_of_le_length (by rw [List.length_drop]; omega), List.drop_take, List.take_take]
    congr 1
    omega
  · rw [List.drop_append, hl, List.drop_eq_nil_of_le (by omega), List.nil_append, List.drop_append, List.drop_eq_nil_of_le (by omega), List.nil_append, List.drop_drop]
    congr 2
    omega
theorem Coh.wrote {s : MS} {M : Bytes} {fs : List Cache} (h : Coh s M fs) (hi : s.Inv) (hM : M.length = 4096) {b : Bytes} {a : Nat} (hb : 0 < b.length) (hp : s.place b.length = some a) : Coh s (wrote M (16 * a) b) fs ∧ Coh (s.added b a) (wrote M (16 * a) b) fs := by
  obtain ⟨h1, h2⟩ := place_free hb hp
  have hle : 16 * a + b.length ≤ M.length := by unfold lns at h1; omega
  have old : ∀ e ∈ s.all, 16 * e.stop ≤ 16 * a ∨ 16 * a + b.length ≤ 16 * e.a := fun e he => by
    rcases h2 e he (hi.size e he).1 with h3 | h3
    · left; omega
    · right; unfold lns at h3; omega
  have hmem : ∀ e ∈ s.all, ((Go.Proofs.YtnhajhejkecihaaDoor.wrote M (16 * a) b).drop (16 * e.a)).take e.bytes.length = e.bytes := fun e he => by
    rw [wrote_old hle (by
      have hs : e.stop = e.a + lns e.bytes.length := rfl
      unfold lns at hs
      have := old e he
      omega)]
    exact h.mem e he
  have hc : ∀ c, c < fs.length → ∀ e ∈ s.all, e.owed.getD c false = false → ∀ k : Nat, e.a ≤ k → k < e.stop → (fs.getD c (fun _ => none)) k = none ∨ (fs.getD c (fun _ => none)) k = some (line (Go.Proofs.YtnhajhejkecihaaDoor.wrote M (16 * a) b) k) := fun c hc e he ho k hk1 hk2 => by
    have e1 : line (Go.Proofs.YtnhajhejkecihaaDoor.wrote M (16 * a) b) k = line M k := by
      unfold line
      exact wrote_old hle (by have := old e he; omega)
    rw [e1]
    exact h.cache c hc e he ho k hk1 hk2
  refine ⟨⟨h.len, hmem, hc⟩, ⟨h.len, fun e he => ?_, fun c hcl e he ho k hk1 hk2 => ?_⟩⟩
  · rcases List.mem_append.1 he with he | he
    · exact hmem e he
    · rw [List.mem_singleton.1 he]
      exact wrote_new (M := M) (b := b) (addr := 16 * a) (by omega)
  · rcases List.mem_append.1 he with he | he
    · exact hc c hcl e he ho k hk1 hk2
    · rw [List.mem_singleton.1 he] at ho
      have hcl2 : c < s.inn.length := by rw [← h.len]; exact hcl
      simp [MS.owing, List.getD_eq_getElem?_getD, hcl2] at ho
section
variable {n : Nat} {w w2 : World} {p : Nat} {r : SR} {s : MS}
/-- A new entry is in the row, the header is set. -/
theorem IsStore.grown (h : IsStore n w p r s) {b : Bytes} {a : Nat} {M : Bytes} {fs : List Cache} (hb : IsBoard w r.bb r.br M fs) (hco : Coh (s.added b a) M fs) {eb o : Nat} {x : MX}
    (he : w.heap[eb]? = some (.cells (ecells ⟨s.next, a, b, false, s.owing⟩ x o).toArray 73 (0, 0))) (hf : FB Tryd.prog 3 4 w o (owedS s.owing) (s.owing.count true)) (hinv : (s.added b a).Inv)
    (heb : n ≤ eb ∧ eb ∉ r.es) (ho : n ≤ o ∧ o ∉ r.br.ms ++ r.os) {g c : Nat}
    (hrow : w2.ownsRow n 70 1 (.slice (some ⟨g, 0, none⟩) (s.all.length + 1) c) (s.all.length + 1) (ptrs (r.es ++ [eb]))) (hk : Keep (fun k => ∃ a, r.A = some a ∧ k = a.block) w w2) :
    IsStore n ((w2.setCell ⟨p, 2, none⟩ (.slice (some ⟨g, 0, none⟩) (s.all.length + 1) c)).setCell ⟨p, 3, none⟩ (.int .i64 ((s.next : Int) + 1))) p { r with A := some ⟨g, 0, none⟩, ac := c, es := r.es ++ [eb], os := r.os ++ [o], xs := r.xs ++ [x] } (s.added b a) := by
  have rowAt : ∀ a, r.A = some a → ∃ cs, w.heap[a.block]? = some (.cells cs 70 (0, 0)) := fun a ha => own_type h.row (by rw [ha]; rfl)
  have far : ∀ {k : Nat} {cs : Array Value} {t : TypeId}, w.heap[k]? = some (.cells cs t (0, 0)) → t ≠ 70 → ¬ ∃ a, r.A = some a ∧ k = a.block := fun hcc ht ⟨a, ha, e⟩ => by
    obtain ⟨cs, hcs⟩ := rowAt a ha
    exact cells_ne hcc hcs ht e
  have farm : ∀ {k : Nat} {es : Array MapEntry} {ck : Nat}, w.heap[k]? = some (.map es ck) → ¬ ∃ a, r.A = some a ∧ k = a.block := fun hcc ⟨a, ha, e⟩ => by
    obtain ⟨cs, hcs⟩ := rowAt a ha
    exact map_ne hcs hcc e.symm
  have hp := (hk.block p (blk_lt h.hdr) (far h.hdr (by decide))).trans h.hdr
  have hp2 := blk_set hp 2 (.slice (some ⟨g, 0, none⟩) (s.all.length + 1) c)
  have ks : Keep (fun k => k = p) w2 ((w2.setCell ⟨p, 2, none⟩ (.slice (some ⟨g, 0, none⟩) (s.all.length + 1) c)).setCell ⟨p, 3, none⟩ (.int .i64 ((s.next : Int) + 1))) := keep_set (keep_set (Keep.refl (fun k => k = p) w2) 2 _) 3 _
  have hp3 := blk_set hp2 3 (.int .i64 ((s.next : Int) + 1))
  obtain ⟨w3, hw3⟩ : ∃ w3, (w2.setCell ⟨p, 2, none⟩ (.slice (some ⟨g, 0, none⟩) (s.all.length + 1) c)).setCell ⟨p, 3, none⟩ (.int .i64 ((s.next : Int) + 1)) = w3 := ⟨_, rfl⟩
  rw [hw3] at ks hp3 ⊢
  have kb : ∀ {k : Nat} {o : Obj}, w.heap[k]? = some o → (¬ ∃ a, r.A = some a ∧ k = a.block) → k ≠ p → w3.heap[k]? = some o := fun hcc h1 h2 => by
    have h3 := (hk.block _ (blk_lt hcc) h1).trans hcc
    exact (ks.block _ (blk_lt h3) h2).trans h3
  have hpb : ∀ k, r.br.foot r.bb k → k ≠ p := board_far hb h.hdr (by decide) (by decide) (by decide)
  have hl1 : (s.added b a).all.length = s.all.length + 1 := by simp [MS.added]
  have hinn : (s.added b a).inn = s.inn := rfl
  have hel := h.eslen
  refine ⟨?_, ⟨M, fs, ?_, hco⟩, ?_, ?_, fun i hi => ?_, ?_, ?_, by simp [MS.added, h.oslen], fun k hkf => ?_, hinv⟩
  · rw [hp3, hl1]
    simp [MS.added]
  · refine IsBoard.keep (IsBoard.keep hb hk (fun k hkf => ?_)) ks hpb
    rcases hkf with rfl | rfl | rfl | hq
    · exact far hb.hdr (by decide)
    · obtain ⟨c, hcc⟩ := own_type hb.mem (k := r.br.mb) rfl
      exact far hcc (by decide)
    · obtain ⟨c, hcc⟩ := own_type hb.caches (k := r.br.cb) rfl
      exact far hcc (by decide)
    · obtain ⟨es, ck, hm⟩ := hb.mem_map hq
      exact farm hm
  · have h1 := hk.own h.inn (fun k e' => by obtain ⟨c, hcc⟩ := own_type h.inn e'; exact far hcc (by decide))
    exact ks.own h1 (fun k e' => by obtain ⟨c, hcc⟩ := own_type h1 e'; exact cells_ne hcc hp (by decide))
  · rw [hl1]
    exact own_zero (ks.own hrow (fun k e' => by obtain ⟨c, hcc⟩ := own_type hrow e'; exact cells_ne hcc hp (by decide)))
  · rw [hl1] at hi
    have put : ∀ {k : Nat} {e : ME} {y : MX} {q : Nat}, w.heap[k]? = some (.cells (ecells e y q).toArray 73 (0, 0)) → FB Tryd.prog 3 4 w q (owedS e.owed) (e.owed.count true) →
        w3.heap[k]? = some (.cells (ecells e y q).toArray 73 (0, 0)) ∧ FB Tryd.prog 3 4 w3 q (owedS e.owed) (e.owed.count true) := fun hc1 hf1 => by
      refine ⟨kb hc1 (far hc1 (by decide)) (cells_ne hc1 h.hdr (by decide)), ?_⟩
      obtain ⟨es, ck, hm⟩ := fb_map hf1
      exact (hf1.keep hk (farm hm)).keep ks (fun e' => map_ne h.hdr hm e'.symm)
    by_cases hie : i = s.all.length
    · have lst : ∀ {α : Type} (l : List α) (y d : α), l.length = s.all.length → (l ++ [y]).getD i d = y := fun l y d hl => by
        rw [hie, List.getD_eq_getElem?_getD, List.getElem?_append_right (by omega), hl]
        simp
      have e1 : (s.added b a).all.getD i ME.dflt = ⟨s.next, a, b, false, s.owing⟩ := lst _ _ _ rfl
      rw [e1]
      simp only [lst r.es eb 0 hel, lst r.os o 0 h.oslen.1, lst r.xs x MX.dflt h.oslen.2]
      exact put he hf
    · have hi2 : i < s.all.length := by omega
      have fst : ∀ {α : Type} (l : List α) (y d : α), l.length = s.all.length → (l ++ [y]).getD i d = l.getD i d := fun l y d hl => by
        rw [List.getD_eq_getElem?_getD, List.getD_eq_getElem?_getD, List.getElem?_append_left (by omega)]
      have e1 : (s.added b a).all.getD i ME.dflt = s.all.getD i ME.dflt := fst _ _ _ rfl
      rw [e1]
      simp only [fst r.es eb 0 hel, fst r.os o 0 h.oslen.1, fst r.xs x MX.dflt h.oslen.2]
      exact put (h.ents i hi2).1 (h.ents i hi2).2
  · show (r.es ++ [eb]).Nodup
    rw [List.nodup_append]
    exact ⟨h.esN, by simp, fun x hx y hy => by rw [List.mem_singleton.1 hy]; exact fun e => heb.2 (e ▸ hx)⟩
  · show (r.br.ms ++ (r.os ++ [o])).Nodup
    rw [← List.append_assoc, List.nodup_append]
    exact ⟨h.maps, by simp, fun x hx y hy => by rw [List.mem_singleton.1 hy]; exact fun e => ho.2 (e ▸ hx)⟩
  · rcases hkf with hk1 | hk1 | hk1 | ⟨a, ha, hk1⟩ | hk1 | hk1
    · exact h.low k (.inl hk1)
    · exact h.low k (.inr (.inl hk1))
    · exact h.low k (.inr (.inr (.inl hk1)))
    · cases ha
      rw [hk1]
      exact own_low hrow rfl
    · rcases List.mem_append.1 hk1 with hk1 | hk1
      · exact h.low k (.inr (.inr (.inr (.inr (.inl hk1)))))
      · rw [List.mem_singleton.1 hk1]; exact heb.1
    · rcases List.mem_append.1 hk1 with hk1 | hk1
      · exact h.low k (.inr (.inr (.inr (.inr (.inr hk1)))))
      · rw [List.mem_singleton.1 hk1]; exact ho.1
end
end Go.Proofs.YtnhajhejkecihaaDoor
/- Install: Add. -/
namespace Go.Proofs.YtnhajhejkecihaaDoor
open Go.RowKit Go.Lib
set_option linter.unusedVariables false
set_option linter.unusedSimpArgs false

/-- The value of a module. -/
def modV (b : Bytes) (x : MX) : Value := .agg (mcells b x).toArray
/-- A store while Add goes. -/
theorem seek_round (t : Nat → Bool) (L f k run : Nat) : seek t L (f + 1) k run = if (if t k then 0 else run + 1) * 16 < L then seek t L f (k + 1) (if t k then 0 else run + 1) else some (k + 1 - (if t k then 0 else run + 1)) := rfl
set_option maxRecDepth 100000 in
set_option maxHeartbeats 4000000 in
theorem add_none {n : Nat} {w : World} {p : Nat} {r : SR} {s : MS} (h : IsStore n w p r s) {b : Bytes} (x : MX) (hb : 0 < b.length ∧ b.length ≤ 4096) (hf : s.all.length < 16) (hp : s.place b.length = none) :
    Calls Tryd.prog 21 #[.pointer (some ⟨p, 0, none⟩), modV b x] w fun e w' => e = .returned (.tuple #[.int .i64 0, .int .i64 2]) ∧ Since w.heap.size w w' := by
  have H := Lib.hid h
  have c2 := h.c2
  obtain ⟨N, hNN⟩ : ∃ N, s.all.length = N := ⟨_, rfl⟩
  rw [hNN] at c2 hf
  obtain ⟨L, hL⟩ : ∃ L, b.length = L := ⟨_, rfl⟩
  have hss : (sb b).size = L := by rw [sb_size, hL]
  obtain ⟨sv, hsv⟩ : ∃ sv, sb b = sv := ⟨_, rfl⟩
  rw [hL] at hb hp
  rw [hsv] at hss
  have HPL := Lib.hid hp
  have bL0 : ¬ L = 0 := by omega
  have bL1 : decide ((4096 : Int) < (L : Int)) = false := by simp; omega
  have bL2 : ¬ 4096 < L := by omega
  have bN : decide ((16 : Int) ≤ (N : Int)) = false := by simp; omega
  have bN2 : ¬ 16 ≤ N := by omega
  unfold modV mcells
  rw [hsv]
  have HNN := Lib.hid hNN
  clear h hp hNN hL hsv
  have k0 := (Keep.refl (fun _ => False) w).alloc' (.cells #[x.x0, x.x1, .string sv, x.x2, x.x3, x.x4, x.x5, x.x6, x.x7] 43)
  have H0 := Lib.hid (And.intro (H.out.quiet k0) (And.intro k0 (heap_alloc_new w (.cells #[x.x0, x.x1, .string sv, x.x2, x.x3, x.x4, x.x5, x.x6, x.x7] 43))))
  clear k0
  go_enter Tryd.func21, Tryd.ntmps21
  go_upto_region 1 with (fail)
  obtain ⟨W1, hW1⟩ : ∃ W1, w.alloc (.cells #[x.x0, x.x1, .string sv, x.x2, x.x3, x.x4, x.x5, x.x6, x.x7] 43) = W1 := ⟨_, rfl⟩
  obtain ⟨mb, hmb⟩ : ∃ mb, w.heap.size = mb := ⟨_, rfl⟩
  have HMB := Lib.hid hmb
  rw [hW1, hmb] at H0
  rw [hW1, hmb]
  clear hW1 hmb c2
  have HC := Lib.hid (closed_any H0.out.1)
  have c2 : W1.cell? ⟨p, 2, none⟩ = some (.slice r.A N r.ac) := by have := H0.out.1.c2; rwa [HNN.out] at this
  have m2 : W1.cell? ⟨mb, 2, none⟩ = some (.string sv) := (blk_cell H0.out.2.2 2).trans rfl
  have HT := Lib.hid (taken_any H0.out.1)
  obtain ⟨P, hP⟩ : ∃ P, takenB s.all = P := ⟨_, rfl⟩
  rw [hP] at HT
  have HPP := Lib.hid hP
  clear hP
  have hzv : ∀ W, (zeroValue 78).run Tryd.prog W = .ok (.agg (tk fun _ => false).toArray) W := fun W => by kernel_rfl
  go_wp2_with fail
  ((with_reducible refine HC.out.mono ?_); rintro e w' ⟨rfl, rfl⟩)
  clear HC
  go_wp2_with fail
  ((with_reducible refine HT.out.mono ?_); rintro e w2 ⟨rfl, hk2⟩)
  have K2 := Lib.hid hk2
  clear hk2 HT c2 m2
  go_wp2_with (first | (refine wpList_store_row rfl 78 (.tmp 6) (.tmp 33) rfl w2.heap.size 78 (tk fun _ => false).toArray (tk P).toArray rfl rfl (by exact heap_alloc_new _ _) (tk_info _) (by rw [List.size_toArray, List.size_toArray, tk_length, tk_length]) (tk_one _) ?_) | (refine wpList_load_row rfl 78 (.tmp 6) rfl w2.heap.size rfl 78 _ (0, 0) _ (by exact setRow_heap _ _ _ _ _ _ (heap_alloc_new _ _)) Tryd.underlying78 rfl (tk_info _) ?_))
  have k3 : Since W1.heap.size W1 ((w2.alloc (.cells (tk fun _ => false).toArray 78)).setRow w2.heap.size (tk P).toArray) :=
    Keep.trans (Keep.trans K2.out (Since.of ((Keep.refl (fun _ => False) w2).alloc' _))) (Keep.mono setRow_keep (fun i hi => by rw [hi]; exact K2.out.size))
  obtain ⟨W3, hW3⟩ : ∃ W3, (w2.alloc (.cells (tk fun _ => false).toArray 78)).setRow w2.heap.size (tk P).toArray = W3 := ⟨_, rfl⟩
  rw [hW3] at k3
  rw [hW3]
  have K3 := Lib.hid k3
  have m2 : W3.cell? ⟨mb, 2, none⟩ = some (.string sv) := (blk_cell ((k3.block mb (blk_lt H0.out.2.2) (by have := blk_lt H0.out.2.2; omega)).trans H0.out.2.2) 2).trans rfl
  obtain ⟨tb, htb⟩ : ∃ tb, w2.heap.size = tb := ⟨_, rfl⟩
  rw [htb]
  obtain ⟨T, hT⟩ : ∃ T, tk P = T := ⟨_, rfl⟩
  have HTT := Lib.hid hT
  rw [hT]
  clear hT hW3 k3 hzv htb K2
  go_loop [7, 35] (fun m i => ∃ k q : Nat, (k ≤ 256 ∧ q ≤ k ∧ q * 16 < L) ∧ i = .int .i64 (k : Int) ∧ m = .int .i64 (q : Int) ∧ Hid (seek P L (256 - k) k q = none)) (fun _ i => 256 + 1 - (RowKit.intOf i).toNat)
  case atStart => exact ⟨0, 0, by omega, rfl, rfl, Lib.hid (by have := HPL.out; unfold MS.place at this; rw [HPP.out] at this; exact this)⟩
  case round =>
    obtain ⟨k, q, hk, rfl, rfl, HS⟩ := hrel
    by_cases hlt : k < 256
    · have hb1 : decide ((k : Int) < 256) = true := by simp; omega
      have hki : (k : Int) < 256 := by omega
      have hix : ∀ W, (Instr.index 78 (.agg T.toArray) (.int .i64 (k : Int))).run Tryd.prog W = .ok (.bool (P k)) W := fun W => by rw [← HTT.out]; exact run_index_tk P hlt W
      have hsk := HS.out
      rw [show 256 - k = (256 - (k + 1)) + 1 by omega, seek_round] at hsk
      obtain ⟨d, hd⟩ : ∃ d, P k = d := ⟨_, rfl⟩
      rw [hd] at hix hsk
      clear hd HS
      cases d with
      | true =>
        simp only [if_true] at hsk
        rw [if_pos (by omega)] at hsk
        have HS := Lib.hid hsk
        have hz : decide ((0 : Int) * 16 < (L : Int)) = true := by simp; omega
        have hz2 : (0 : Int) < (L : Int) := by omega
        clear hsk
        go_wp2_with fail
        exact ⟨⟨k + 1, 0, by omega, by go_num, rfl, HS⟩, by simp [RowKit.intOf]; omega⟩
      | false =>
        simp only [Bool.false_eq_true, if_false] at hsk
        by_cases hq : (q + 1) * 16 < L
        · rw [if_pos hq] at hsk
          have HS := Lib.hid hsk
          have hz : decide (((q : Int) + 1) * 16 < (L : Int)) = true := by simp; omega
          have hz2 : ((q : Int) + 1) * 16 < (L : Int) := by omega
          clear hsk
          go_wp2_with fail
          exact ⟨⟨k + 1, q + 1, by omega, by go_num, by go_num, HS⟩, by simp [RowKit.intOf]; omega⟩
        · rw [if_neg hq] at hsk
          cases hsk
    · obtain rfl : k = 256 := by omega
      go_wp2_with fail
      go_ret2
      refine ⟨rfl, ?_⟩
      have h1 : Since w.heap.size w W1 := Since.of H0.out.2.1
      exact Keep.trans h1 (Keep.mono K3.out (fun i hi => Nat.le_trans h1.size hi))
end Go.Proofs.YtnhajhejkecihaaDoor
/- Install: Add where there is room. -/
namespace Go.Proofs.YtnhajhejkecihaaDoor
open Go.RowKit Go.Lib
set_option linter.unusedVariables false
set_option linter.unusedSimpArgs false

theorem wpStill_load_row {P : Program} {ops : Array Oper} {rest : List Oper} {op : Oper} {a : Act} {w : World} {Q : Act → Prop} (hgd : op.guard = none) (ty : TypeId) (x : Operand) (ho : op.op = .load ty x) (g : Nat) (hx : a.eval x = .pointer (some ⟨g, 0, none⟩))
    (t : TypeId) (cs : Array Value) (fr : Nat × Nat) (d : TypeDesc) (hg : w.heap[g]? = some (.cells cs t fr)) (hu : P.underlying ty = some d) (hd : (match d with | .struct _ | .array _ _ => true | _ => false) = true) (hi : (P.info? ty).map (·.size) = some cs.size)
    (h : wpStill P ops w Q rest (a.put op.dst (.agg cs))) : wpStill P ops w Q (op :: rest) a := by
  unfold wpStill
  rw [if_pos (by unfold Region.wanted; rw [hgd])]
  unfold Oper.still execOp
  simp only [ho, hx, Instr.loadAt, Instr.sureAddr, Sem.run_bind, Sem.run_pure, Result.andThen_ok, run_loadVar_row w g t ty cs fr d hg hu hd hi]
  exact ⟨rfl, h⟩
theorem Tryd.entriesTy : OneTy Tryd.prog 61 70 (.pointer none) 8 := ⟨Tryd.underlying61, by kernel_rfl, rfl⟩
theorem own_some {w : World} {base n : Nat} {e : TypeId} {v : Value} {xs : List Value} (h : w.ownsRow base e 1 v (n + 1) xs) : ∃ g c, v = .slice (some ⟨g, 0, none⟩) (n + 1) c := by
  rcases h.2 with ⟨_, h2⟩ | ⟨g, cap, cur, h1, _⟩
  · omega
  · exact ⟨g, cap, h1⟩
theorem add_tail {n : Nat} {w w7 w8 : World} {p : Nat} {r : SR} {s : MS} {b : Bytes} {a : Nat} {x : MX} {eb o : Nat} {M : Bytes} {fs : List Cache} {g c N : Nat} {X : Obj} (hN : s.all.length = N) (st7 : IsStore n w7 p r s) (bd7 : IsBoard w7 r.bb r.br M fs) (hco : Coh (s.added b a) M fs)
    (he7 : w7.heap[eb]? = some (.cells (ecells ⟨s.next, a, b, false, s.owing⟩ x o).toArray 73 (0, 0))) (hf7 : FB Tryd.prog 3 4 w7 o (owedS (List.replicate s.inn.length true)) s.inn.length) (ho2 : ∀ k, r.foot p k → k < o) (hno : n ≤ o) (sc7 : Keep (r.foot p) w w7) (hwe : w.heap.size ≤ eb) (hwo : w.heap.size ≤ o) (hold : ∀ k, r.foot p k → k < eb) (hneb : n ≤ eb) (hinv : (s.added b a).Inv)
    (hown : w8.ownsRow n 70 1 (.slice (some ⟨g, 0, none⟩) (N + 1) c) (N + 1) (ptrs r.es ++ [.pointer (some ⟨eb, 0, none⟩)])) (hgr : (w7.alloc X).grownBy w8 (Value.slice r.A N r.ac).ownBlock) (hblk : (Value.slice (some ⟨g, 0, none⟩) (N + 1) c).ownBlock = (Value.slice r.A N r.ac).ownBlock ∨ (Value.slice (some ⟨g, 0, none⟩) (N + 1) c).ownBlock = some (w7.alloc X).heap.size) :
    ((∃ u, w8.cell? ⟨p, 2, none⟩ = some u) ∧ w8.frozen? ⟨p, 2, none⟩ = false ∧ (w8.setCell ⟨p, 2, none⟩ (.slice (some ⟨g, 0, none⟩) (N + 1) c)).cell? ⟨p, 3, none⟩ = some (.int .i64 s.next) ∧ (w8.setCell ⟨p, 2, none⟩ (.slice (some ⟨g, 0, none⟩) (N + 1) c)).frozen? ⟨p, 3, none⟩ = false) ∧
    ((w8.setCell ⟨p, 2, none⟩ (.slice (some ⟨g, 0, none⟩) (N + 1) c)).setCell ⟨p, 3, none⟩ (.int .i64 ((s.next : Int) + 1))).cell? ⟨eb, 0, none⟩ = some (.int .i64 s.next) ∧
    ∃ r', IsStore n ((w8.setCell ⟨p, 2, none⟩ (.slice (some ⟨g, 0, none⟩) (N + 1) c)).setCell ⟨p, 3, none⟩ (.int .i64 ((s.next : Int) + 1))) p r' (s.added b a) ∧ Keep (r.foot p) w ((w8.setCell ⟨p, 2, none⟩ (.slice (some ⟨g, 0, none⟩) (N + 1) c)).setCell ⟨p, 3, none⟩ (.int .i64 ((s.next : Int) + 1))) ∧ ∀ k, r'.foot p k → r.foot p k ∨ w.heap.size ≤ k := by
  subst hN
  have hk : Keep (fun k => ∃ a, r.A = some a ∧ k = a.block) w7 w8 := ((((Keep.refl (fun _ => False) w7).alloc' X).mono (F' := fun k => ∃ a, r.A = some a ∧ k = a.block) (fun _ => False.elim))).grown hgr (fun k e => .inl (by
    cases hA : r.A with
    | none => rw [hA] at e; simp [Value.ownBlock] at e
    | some q =>
      rw [hA] at e
      simp [Value.ownBlock] at e
      exact ⟨q, rfl, e.symm⟩))
  have rowAt : ∀ a, r.A = some a → ∃ cs, w7.heap[a.block]? = some (.cells cs 70 (0, 0)) := fun a ha => own_type st7.row (by rw [ha]; rfl)
  have far : ∀ {k : Nat} {cs : Array Value} {t : TypeId}, w7.heap[k]? = some (.cells cs t (0, 0)) → t ≠ 70 → ¬ ∃ a, r.A = some a ∧ k = a.block := fun hcc ht ⟨a, ha, e⟩ => by
    obtain ⟨cs, hcs⟩ := rowAt a ha
    exact cells_ne hcc hcs ht e
  have hp := (hk.block p (blk_lt st7.hdr) (far st7.hdr (by decide))).trans st7.hdr
  have he8 := (hk.block eb (blk_lt he7) (far he7 (by decide))).trans he7
  have hp2 := blk_set hp 2 (.slice (some ⟨g, 0, none⟩) (s.all.length + 1) c)
  have hpe : eb ≠ p := by have := hold p (.inl rfl); omega
  have ks := keep_set (keep_set (Keep.refl (fun k => k = p) w8) 2 (.slice (some ⟨g, 0, none⟩) (s.all.length + 1) c)) 3 (.int .i64 ((s.next : Int) + 1))
  refine ⟨⟨⟨_, (blk_cell hp 2).trans rfl⟩, blk_free hp 2, (blk_cell hp2 3).trans rfl, blk_free hp2 3⟩, ?_, ?_⟩
  · rw [blk_cell ((ks.block eb (blk_lt he8) hpe).trans he8) 0]
    rfl
  · have hmem : ∀ k, k ∈ r.br.ms ++ r.os → r.foot p k := fun k hk => by
      rcases List.mem_append.1 hk with hk | hk
      · exact .inr (.inl (.inr (.inr (.inr hk))))
      · exact .inr (.inr (.inr (.inr (.inr hk))))
    refine ⟨_, st7.grown bd7 hco he7 (by
      have e1 : (s.owing).count true = s.inn.length := by simp [MS.owing]
      rw [e1]
      exact hf7) hinv ⟨hneb, fun hm => by have := hold eb (.inr (.inr (.inr (.inr (.inl hm))))); omega⟩ ⟨hno, fun hm => by have := ho2 o (hmem o hm); omega⟩ (by
      have : ptrs (r.es ++ [eb]) = ptrs r.es ++ [.pointer (some ⟨eb, 0, none⟩)] := by simp [ptrs]
      rw [this]
      exact hown) hk, Keep.trans sc7 (Keep.trans (Keep.mono hk (F' := r.foot p) (fun i ⟨q, hq, e⟩ => .inr (.inr (.inr (.inl ⟨q, hq, e⟩))))) (Keep.mono ks (fun i e => .inl e))), fun k hkf => ?_⟩
    rcases hkf with h1 | h1 | h1 | ⟨q, hq, h1⟩ | h1 | h1
    · exact .inl (.inl h1)
    · exact .inl (.inr (.inl h1))
    · exact .inl (.inr (.inr (.inl h1)))
    · cases hq
      have h1 : k = g := h1
      subst h1
      rcases hblk with hb | hb
      · cases hA : r.A with
        | none => rw [hA] at hb; simp [Value.ownBlock] at hb
        | some q =>
          rw [hA] at hb
          simp [Value.ownBlock] at hb
          exact .inl (.inr (.inr (.inr (.inl ⟨q, hA, hb⟩))))
      · right
        have hb2 : some k = some (w7.alloc X).heap.size := hb
        have hb3 := Option.some.inj hb2
        have h7 := sc7.size
        have h8 : (w7.alloc X).heap.size = w7.heap.size + 1 := by simp
        omega
    · rcases List.mem_append.1 h1 with h1 | h1
      · exact .inl (.inr (.inr (.inr (.inr (.inl h1)))))
      · rw [List.mem_singleton.1 h1]; exact .inr hwe
    · rcases List.mem_append.1 h1 with h1 | h1
      · exact .inl (.inr (.inr (.inr (.inr (.inr h1)))))
      · rw [List.mem_singleton.1 h1]; exact .inr hwo
set_option maxRecDepth 100000 in
set_option maxHeartbeats 4000000 in
theorem add_some {n : Nat} {w : World} {p : Nat} {r : SR} {s : MS} (h : IsStore n w p r s) {b : Bytes} (x : MX) (hb : 0 < b.length ∧ b.length ≤ 4096) (hf : s.all.length < 16) {a : Nat} (hp : s.place b.length = some a) (hnx : s.next < 1000000) :
    Calls Tryd.prog 21 #[.pointer (some ⟨p, 0, none⟩), modV b x] w fun e w' => e = .returned (.tuple #[.int .i64 s.next, .int .i64 0]) ∧ ∃ r', IsStore n w' p r' (s.added b a) ∧ Keep (r.foot p) w w' ∧ ∀ k, r'.foot p k → r.foot p k ∨ w.heap.size ≤ k := by
  have H := Lib.hid h
  have c2 := h.c2
  obtain ⟨N, hNN⟩ : ∃ N, s.all.length = N := ⟨_, rfl⟩
  rw [hNN] at c2 hf
  obtain ⟨L, hL⟩ : ∃ L, b.length = L := ⟨_, rfl⟩
  have hss : (sb b).size = L := by rw [sb_size, hL]
  obtain ⟨sv, hsv⟩ : ∃ sv, sb b = sv := ⟨_, rfl⟩
  rw [hL] at hb hp
  rw [hsv] at hss
  have HPL := Lib.hid hp
  have HNX := Lib.hid hnx
  have bL0 : ¬ L = 0 := by omega
  have bL1 : decide ((4096 : Int) < (L : Int)) = false := by simp; omega
  have bL2 : ¬ 4096 < L := by omega
  have bN : decide ((16 : Int) ≤ (N : Int)) = false := by simp; omega
  have bN2 : ¬ 16 ≤ N := by omega
  unfold modV mcells
  rw [hsv]
  have HNN := Lib.hid hNN
  have HB := Lib.hid (And.intro hL hsv)
  clear h hp hnx hNN hL hsv
  have k0 := (Keep.refl (fun _ => False) w).alloc' (.cells #[x.x0, x.x1, .string sv, x.x2, x.x3, x.x4, x.x5, x.x6, x.x7] 43)
  have H0 := Lib.hid (And.intro (H.out.quiet k0) (And.intro k0 (heap_alloc_new w (.cells #[x.x0, x.x1, .string sv, x.x2, x.x3, x.x4, x.x5, x.x6, x.x7] 43))))
  clear k0
  go_enter Tryd.func21, Tryd.ntmps21
  go_upto_region 1 with (fail)
  obtain ⟨W1, hW1⟩ : ∃ W1, w.alloc (.cells #[x.x0, x.x1, .string sv, x.x2, x.x3, x.x4, x.x5, x.x6, x.x7] 43) = W1 := ⟨_, rfl⟩
  obtain ⟨mb, hmb⟩ : ∃ mb, w.heap.size = mb := ⟨_, rfl⟩
  have HMB := Lib.hid hmb
  rw [hW1, hmb] at H0
  rw [hW1, hmb]
  clear hW1 hmb c2
  have HC := Lib.hid (closed_any H0.out.1)
  have c2 : W1.cell? ⟨p, 2, none⟩ = some (.slice r.A N r.ac) := by have := H0.out.1.c2; rwa [HNN.out] at this
  have m2 : W1.cell? ⟨mb, 2, none⟩ = some (.string sv) := (blk_cell H0.out.2.2 2).trans rfl
  have HT := Lib.hid (taken_any H0.out.1)
  obtain ⟨P, hP⟩ : ∃ P, takenB s.all = P := ⟨_, rfl⟩
  rw [hP] at HT
  have HPP := Lib.hid hP
  clear hP
  have hzv : ∀ W, (zeroValue 78).run Tryd.prog W = .ok (.agg (tk fun _ => false).toArray) W := fun W => by kernel_rfl
  go_wp2_with fail
  ((with_reducible refine HC.out.mono ?_); rintro e w' ⟨rfl, rfl⟩)
  clear HC
  go_wp2_with fail
  ((with_reducible refine HT.out.mono ?_); rintro e w2 ⟨rfl, hk2⟩)
  have K2 := Lib.hid hk2
  clear hk2 HT c2 m2
  go_wp2_with (first | (refine wpList_store_row rfl 78 (.tmp 6) (.tmp 33) rfl w2.heap.size 78 (tk fun _ => false).toArray (tk P).toArray rfl rfl (by exact heap_alloc_new _ _) (tk_info _) (by rw [List.size_toArray, List.size_toArray, tk_length, tk_length]) (tk_one _) ?_) | (refine wpList_load_row rfl 78 (.tmp 6) rfl w2.heap.size rfl 78 _ (0, 0) _ (by exact setRow_heap _ _ _ _ _ _ (heap_alloc_new _ _)) Tryd.underlying78 rfl (tk_info _) ?_))
  have k3 : Since W1.heap.size W1 ((w2.alloc (.cells (tk fun _ => false).toArray 78)).setRow w2.heap.size (tk P).toArray) :=
    Keep.trans (Keep.trans K2.out (Since.of ((Keep.refl (fun _ => False) w2).alloc' _))) (Keep.mono setRow_keep (fun i hi => by rw [hi]; exact K2.out.size))
  obtain ⟨W3, hW3⟩ : ∃ W3, (w2.alloc (.cells (tk fun _ => false).toArray 78)).setRow w2.heap.size (tk P).toArray = W3 := ⟨_, rfl⟩
  rw [hW3] at k3
  rw [hW3]
  have K3 := Lib.hid k3
  have m2 : W3.cell? ⟨mb, 2, none⟩ = some (.string sv) := (blk_cell ((k3.block mb (blk_lt H0.out.2.2) (by have := blk_lt H0.out.2.2; omega)).trans H0.out.2.2) 2).trans rfl
  obtain ⟨tb, htb⟩ : ∃ tb, w2.heap.size = tb := ⟨_, rfl⟩
  rw [htb]
  obtain ⟨T, hT⟩ : ∃ T, tk P = T := ⟨_, rfl⟩
  have HTT := Lib.hid hT
  rw [hT]
  clear hT hW3 k3 hzv htb K2
  go_loop [7, 35] (fun m i => ∃ k q : Nat, (k ≤ 256 ∧ q ≤ k ∧ q * 16 < L) ∧ i = .int .i64 (k : Int) ∧ m = .int .i64 (q : Int) ∧ Hid (seek P L (256 - k) k q = some a)) (fun _ i => 256 + 1 - (RowKit.intOf i).toNat)
  case atStart => exact ⟨0, 0, by omega, rfl, rfl, Lib.hid (by have := HPL.out; unfold MS.place at this; rw [HPP.out] at this; exact this)⟩
  case round =>
    obtain ⟨k, q, hk, rfl, rfl, HS⟩ := hrel
    by_cases hlt : k < 256
    · have hb1 : decide ((k : Int) < 256) = true := by simp; omega
      have hki : (k : Int) < 256 := by omega
      have hix : ∀ W, (Instr.index 78 (.agg T.toArray) (.int .i64 (k : Int))).run Tryd.prog W = .ok (.bool (P k)) W := fun W => by rw [← HTT.out]; exact run_index_tk P hlt W
      have hsk := HS.out
      rw [show 256 - k = (256 - (k + 1)) + 1 by omega, seek_round] at hsk
      obtain ⟨d, hd⟩ : ∃ d, P k = d := ⟨_, rfl⟩
      rw [hd] at hix hsk
      clear hd HS
      cases d with
      | true =>
        simp only [if_true] at hsk
        rw [if_pos (by omega)] at hsk
        have HS := Lib.hid hsk
        have hz : decide ((0 : Int) * 16 < (L : Int)) = true := by simp; omega
        have hz2 : (0 : Int) < (L : Int) := by omega
        clear hsk
        go_wp2_with fail
        exact ⟨⟨k + 1, 0, by omega, by go_num, rfl, HS⟩, by simp [RowKit.intOf]; omega⟩
      | false =>
        simp only [Bool.false_eq_true, if_false] at hsk
        by_cases hq : (q + 1) * 16 < L
        · rw [if_pos hq] at hsk
          have HS := Lib.hid hsk
          have hz : decide (((q : Int) + 1) * 16 < (L : Int)) = true := by simp; omega
          have hz2 : ((q : Int) + 1) * 16 < (L : Int) := by omega
          clear hsk
          go_wp2_with fail
          exact ⟨⟨k + 1, q + 1, by omega, by go_num, by go_num, HS⟩, by simp [RowKit.intOf]; omega⟩
        · rw [if_neg hq] at hsk
          have hak := Option.some.inj hsk
          have hz : decide (((q : Int) + 1) * 16 < (L : Int)) = false := by simp; omega
          have hz2 : ¬ ((q : Int) + 1) * 16 < (L : Int) := by omega
          have hst := H0.out.1.since K3.out
          have c3 := hst.c3
          have c0 := hst.c0
          have hm := (K3.out.block mb (blk_lt H0.out.2.2) (by have := blk_lt H0.out.2.2; omega)).trans H0.out.2.2
          have HAK : Hid (k = a + q) := Lib.hid (by omega)
          have hA : ((k : Int) + 1 - ((q : Int) + 1)) * 16 = ((16 * a : Nat) : Int) := by have := HAK.out; omega
          have HA := Lib.hid hA
          clear hsk hak hA
          go_wp2_with fail
          go_still_tail 11, (by kernel_rfl)
          refine wpStill_load_row rfl 43 (.tmp 3) rfl mb rfl 43 _ (0, 0) _ hm Tryd.underlying43 rfl (by kernel_rfl) ?_
          repeat still_step
          refine wpStill_nil ?_
          change wpList _ _ _ _ _ W3.drew
          have d0 : W3.drew.cell? ⟨p, 0, none⟩ = _ := c0
          have d3 : W3.drew.cell? ⟨p, 3, none⟩ = _ := c3
          have dm : W3.drew.cell? ⟨mb, 2, none⟩ = _ := m2
          have dh : W3.drew.heap[mb]? = _ := hm
          have HD := Lib.hid (hst.quiet (keep_draw (fun _ => False) W3))
          have KD := Lib.hid (Keep.trans K3.out (keep_draw _ W3))
          obtain ⟨wd, hwd⟩ : ∃ wd, W3.drew = wd := ⟨_, rfl⟩
          rw [hwd] at d0 d3 dm dh HD KD ⊢
          clear hwd c0 c3 m2 hm hst
          go_wp2_with fail
          rw [HA.out]
          have hlow : n ≤ wd.heap.size := by
            have h1 := H.out.low p (.inl rfl)
            have h2 := blk_lt H.out.hdr
            have h3 := H0.out.2.1.size
            have h4 := KD.out.size
            omega
          have kw : Keep (r.foot p) w wd := (Keep.mono H0.out.2.1 (F' := r.foot p) (fun _ => False.elim)).then KD.out (fun i hi => .inr (Nat.le_trans H0.out.2.1.size hi))
          obtain ⟨M, fs, hbd0, hco⟩ := HD.out.board
          have hml : M.length = 4096 := hbd0.len
          have hpl := place_free (L := b.length) (a := a) (s := s) (by rw [HB.out.1]; exact hb.1) (by rw [HB.out.1]; exact HPL.out)
          have hadd : 16 * a + b.length ≤ 4096 := by have := hpl.1; unfold lns at this; omega
          have hwro := hco.wrote HD.out.inv hml (b := b) (a := a) (by rw [HB.out.1]; exact hb.1) (by rw [HB.out.1]; exact HPL.out)
          have hinv := added_inv HD.out.inv (b := b) (a := a) (by rw [HB.out.1]; exact hb.1) (by rw [HB.out.1]; exact HPL.out) (by rw [HNN.out]; exact hf) HNX.out
          obtain ⟨A16, hA16⟩ : ∃ A16 : Int, ((16 * a : Nat) : Int) = A16 := ⟨_, rfl⟩
          have ka := (Keep.refl (fun _ => False) wd).alloc' (.cells #[.int .i64 s.next, .int .i64 ((16 * a : Nat) : Int), x.x0, x.x1, .string sv, x.x2, x.x3, x.x4, x.x5, x.x6, x.x7, .bool false, .map none] 73)
          have he4 := heap_alloc_new wd (.cells #[.int .i64 s.next, .int .i64 ((16 * a : Nat) : Int), x.x0, x.x1, .string sv, x.x2, x.x3, x.x4, x.x5, x.x6, x.x7, .bool false, .map none] 73)
          obtain ⟨eb, hebd⟩ : ∃ eb, wd.heap.size = eb := ⟨_, rfl⟩
          obtain ⟨w4, hw4⟩ : ∃ w4, wd.alloc (.cells #[.int .i64 s.next, .int .i64 ((16 * a : Nat) : Int), x.x0, x.x1, .string sv, x.x2, x.x3, x.x4, x.x5, x.x6, x.x7, .bool false, .map none] 73) = w4 := ⟨_, rfl⟩
          rw [hw4] at ka he4
          rw [hebd] at he4
          have hold : ∀ k, r.foot p k → k < eb := fun k hk => by rw [← hebd]; exact HD.out.foot_lt k hk
          have k5 : Keep (fun _ => False) wd w4.drew := Keep.trans ka (keep_draw _ w4)
          have hbd := hbd0.keep k5 (fun _ _ => id)
          have st5 := HD.out.quiet k5
          have he5 : w4.drew.heap[eb]? = _ := he4
          have HWR : Hid (Calls Tryd.prog 35 #[.pointer (some ⟨r.bb, 0, none⟩), .int .i64 A16, .string sv] w4.drew fun ee w' => ee = .returned (.int .i64 0) ∧ IsStore n w' p r s ∧ IsBoard w' r.bb r.br (wrote M (16 * a) b) fs ∧
              w'.heap[eb]? = some (.cells #[.int .i64 s.next, .int .i64 ((16 * a : Nat) : Int), x.x0, x.x1, .string sv, x.x2, x.x3, x.x4, x.x5, x.x6, x.x7, .bool false, .map none] 73 (0, 0)) ∧ Keep (r.foot p) w w') := by
            have hwa := write_any hbd (16 * a) b (by rw [HB.out.1]; exact hb.1) hadd
            rw [HB.out.2, hA16] at hwa
            refine Lib.hid (hwa.mono ?_)
            rintro ee w' ⟨rfl, hb2, hk2⟩
            have hne : eb ≠ r.br.mb := by have := hold r.br.mb (.inr (.inl (.inr (.inl rfl)))); omega
            exact ⟨rfl, st5.turnBoard hb2 hwro.1 hk2 (.inl rfl), hb2, (hk2.block eb (blk_lt he5) hne).trans he5, Keep.trans kw (Keep.trans (Keep.mono k5 (fun _ => False.elim)) (Keep.mono hk2 (fun i hi => by rw [hi]; exact .inr (.inl (.inr (.inl rfl))))))⟩
          have d0' : w4.cell? ⟨p, 0, none⟩ = some (.pointer (some ⟨r.bb, 0, none⟩)) := cell_kept ka d0 id
          have dm' : w4.cell? ⟨mb, 2, none⟩ = some (.string sv) := cell_kept ka dm id
          have e1' : w4.cell? ⟨eb, 1, none⟩ = some (.int .i64 A16) := by rw [← hA16]; exact (blk_cell he4 1).trans rfl
          have hneb : n ≤ eb := by omega
          have HWE := Lib.hid (show w.heap.size ≤ eb by have := kw.size; omega)
          have HX := Lib.hid (And.intro hneb (And.intro hold (And.intro hwro.2 hinv)))
          rw [hebd, hw4]
          clear hebd hw4 ka he4 hbd0 hco hml hpl hadd hwro hinv hold k5 hbd st5 he5 d0 d3 dm dh hlow kw hneb hix
          go_wp2_with fail
          go_still_tail 10, (by kernel_rfl)
          change wpList _ _ _ _ _ w4.drew
          obtain ⟨w5, hw5⟩ : ∃ w5, w4.drew = w5 := ⟨_, rfl⟩
          rw [hw5] at HWR ⊢
          clear hw5
          go_wp2_with fail
          ((with_reducible refine HWR.out.mono ?_); rintro ee w6 ⟨rfl, st6, bd6, he6, sc6⟩)
          have hpe : p ≠ eb := by have := HX.out.2.1 p (.inl rfl); omega
          have HOW := Lib.hid (owe_low (p := p) st6.c1 he6 rfl hpe st6.inv.cpus.2)
          have H6 := Lib.hid (And.intro st6 (And.intro bd6 sc6))
          clear HWR st6 bd6 he6 sc6 d0' dm' e1'
          go_wp2_with fail
          ((with_reducible refine HOW.out.mono ?_); rintro ee w7 ⟨rfl, o, ho, he7, hf7, hk7⟩)
          clear HOW
          have heb7 : ∀ k, r.foot p k → ¬ k = eb := fun k hk => by have := HX.out.2.1 k hk; omega
          have st7 := H6.out.1.keep hk7 heb7
          have bd7 := H6.out.2.1.keep hk7 (fun k hk => heb7 k (.inr (.inl hk)))
          have ho2 : ∀ k, r.foot p k → k < o := fun k hk => by have := H6.out.1.foot_lt k hk; omega
          have hno : n ≤ o := by have := H6.out.1.foot_lt p (.inl rfl); have := H6.out.1.low p (.inl rfl); omega
          have sc7 : Keep (r.foot p) w w7 := H6.out.2.2.then hk7 (fun i hi => .inr (by rw [hi]; exact HWE.out))
          have HWO := Lib.hid (Nat.le_trans H6.out.2.2.size ho)
          have c2 := st7.c2
          rw [HNN.out] at c2
          have f2 := blk_free st7.hdr 2
          have rowN : w7.ownsRow n 70 1 (.slice r.A N r.ac) N (ptrs r.es) := by
            have := own_base st7.row n (fun k e => st7.low k (by
              cases hA : r.A with
              | none => rw [hA] at e; simp [Value.ownBlock] at e
              | some q =>
                rw [hA] at e
                simp [Value.ownBlock] at e
                exact .inr (.inr (.inr (.inl ⟨q, hA, e.symm⟩)))))
            rwa [HNN.out] at this
          have hn7 : n ≤ w7.heap.size := by have := st7.foot_lt p (.inl rfl); have := st7.low p (.inl rfl); omega
          replace he7 : w7.heap[eb]? = some (.cells (ecells ⟨s.next, a, b, false, s.owing⟩ x o).toArray 73 (0, 0)) := by
            rw [← HB.out.2] at he7
            exact he7
          have hnx2 : s.next < 1000000 := HNX.out
          have H7 := Lib.hid (And.intro st7 (And.intro bd7 (And.intro he7 (And.intro hf7 (And.intro ho2 (And.intro hno (And.intro sc7 (And.intro rowN hn7))))))))
          clear st7 bd7 he7 hf7 ho2 hno sc7 rowN ho hk7 heb7 hn7 H6
          go_wp2_with (at_builtin; go_loud (refine wpList_append_src 61 70 _ 8 n Tryd.entriesTy _ _ rfl rfl _ N (ptrs r.es) rfl (by exact H7.out.2.2.2.2.2.2.2.1.alloc _) _ 1 1 [.pointer (some ⟨eb, 0, none⟩)] rfl (by intro h; cases h) (by exact cells_new _ _ _) (by intro u hu; rw [List.mem_singleton.1 hu]; rfl) (by omega) (by decide) (by have := H7.out.2.2.2.2.2.2.2.2; simp; omega) ?_); intro v' w8 hown hgr hnil hblk; clear hnil; obtain ⟨g, cc, rfl⟩ := own_some hown; go_loud (obtain ⟨⟨⟨uu, t1⟩, t2, t3, t4⟩, t5, t6⟩ := add_tail (x := x) HNN.out H7.out.1 H7.out.2.1 HX.out.2.2.1 H7.out.2.2.1 H7.out.2.2.2.1 H7.out.2.2.2.2.1 H7.out.2.2.2.2.2.1 H7.out.2.2.2.2.2.2.1 HWE.out HWO.out HX.out.2.1 HX.out.1 HX.out.2.2.2 hown hgr hblk); have HF := Lib.hid t6; clear hown hgr hblk t6)
          go_ret2
          exact ⟨rfl, HF.out⟩
    · exfalso
      obtain rfl : k = 256 := by omega
      have := HS.out
      cases this
end Go.Proofs.YtnhajhejkecihaaDoor
