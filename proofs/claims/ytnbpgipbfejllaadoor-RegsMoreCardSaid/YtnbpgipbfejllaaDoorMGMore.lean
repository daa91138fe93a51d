/- RegsMore: with more registers the locations are the same, and the stack is smaller: true of every case and number, for the given program. -/
import Derived.Test.YtnbpgipbfejllaaDoorMG61
import Derived.Test.YtnbpgipbfejllaaDoorMKL
namespace Go.Proofs.YtnbpgipbfejllaaDoor
open Go.ChangeShapes Go.WideShapes Go.ChangeAt Go.RowKit
set_option linter.unusedVariables false
set_option linter.unusedSimpArgs false

theorem more_walk (W : World) {A : Option Addr} {n c : Nat} {xs : List Int} (hA : IntsAt W A n xs) (hn : n ≤ 140737488351232) (once : Int) (m : Nat) (hm : m < 256) (h1 : NB W) (h2 : TBW W) (x : Int) (hx : 0 ≤ x ∧ x ≤ 255) :
    Calls Tryd.prog 7 #[.agg #[.slice A n c, .int .i64 once, .int .u8 (m : Int)], .int .u8 x] W fun e w' => e = .returned (.bool true) ∧ Below W.heap.size W w' := by
  obtain ⟨xn, rfl⟩ : ∃ xn : Nat, x = (xn : Int) := ⟨x.toNat, by omega⟩
  exact (morelaw_any W h1 h2 hA hn once m hm xn (by omega)).mono (fun e w' h => ⟨h.1, below_since h.2 rfl⟩)

set_option maxRecDepth 100000 in
theorem more_lifted (os : Os) (started : os.Started) (H : Type) (enc : TypeId × Value → H) :
    ReturnsInHanded {} Tryd.checked os 7 .any (fun w args => (Rows.regsMoreSpec.pre enc Tryd.prog Tryd.f7 Rows.regsMoreRow.domain false w args ∧ laidMet Tryd.prog Rows.regsMoreRow.laid w) ∧ sizedMet enc Tryd.prog Tryd.f7 (OpenSpec.ofChange Rows.regsMoreSpec) false w args) (Rows.regsMoreSpec.post enc Tryd.prog Tryd.f7 false true false false) := by
  refine law_lift_laid (C := Tryd.checked) (X := fun w _ => laidMet Tryd.prog tabs w) (fun _ _ _ hh h => h.of_heap hh) Tryd.own started (by kernel_rfl) Tryd.func7
    (ChangeSpec.witness_at (enc := enc) (C := Tryd.checked) (os := os) (X := fun w _ => laidMet Tryd.prog tabs w) false (laidWorld os) #[.agg #[.slice none 0 0, .int .i64 0, .int .u8 0], .int .u8 0] 8 rfl (by kernel_rfl) (by kernel_rfl) (by kernel_rfl) (by kernel_rfl) (by kernel_rfl) (laidWorld_met os _))
    Tryd.laidOut (by kernel_rfl) rfl rfl Tryd.underlying4 ?_ ?_
  · intro ds hl
    match ds, hl with
    | [d1, d2], _ => exact ⟨rfl, rfl, rfl⟩
  · intro W base args ds p hval0 hA0 hlt hsz0 hL
    have hval : ∀ (j : Nat) t v, Tryd.f7.params[j]? = some t → args[j]? = some v → Value.okWide Tryd.prog W .any base t v := hval0
    have hA : DataW.TrodAll enc Tryd.prog W 0 (fun _ => true) true Tryd.f7.params.toList args.toList ds p := hA0
    have hsz : (DataW.weightsEach Tryd.prog Tryd.f7.params.toList ds).all (· ≤ reachBytes) = true := hsz0
    rw [Tryd.params7] at hA hval hsz
    clear hA0 hval0 hsz0
    obtain ⟨v0, v1, d0, d1, p0, p1, rfl, rfl, rfl, h0, h1⟩ := trodAll_two hA
    have hlt0 : ∀ x ∈ p0, x.block < W.heap.size := fun x hx => hlt x (by simp [hx])
    have hlt1 : ∀ x ∈ p1, x.block < W.heap.size := fun x hx => hlt x (by simp [hx])
    obtain ⟨Ac, nc, cc, xc, oc, mc, rfl, ic, bc, lc⟩ := open_case Tryd.underlying24 (by kernel_rfl) ⟨rfl, by kernel_rfl⟩ ⟨rfl, by kernel_rfl⟩ ⟨rfl, by kernel_rfl⟩ Tryd.underlying22 Tryd.underlying3 (by kernel_rfl) (by kernel_rfl) Tryd.underlying3 Tryd.underlying5 (hval 0 24 v0 rfl rfl) h0 hlt0 (fun n hn => by have := List.all_eq_true.1 hsz n (DataW.weights_mem_each (j := 0) rfl rfl n hn); simpa using this)
    obtain ⟨x, rfl, rfl, rfl, wx⟩ := open_int Tryd.underlying5 (hval 1 5 v1 rfl rfl) h1
    exact more_walk W ic bc oc mc lc (nb_of_laid hL) (tb_of_laid hL) x (bd_u8 wx)

/-- The row. -/
theorem more_row : Rows.RegsMoreSaid :=
  OpenClaim.holds_of_wide 7 Tryd.f7 rfl rfl rfl rfl rfl rfl rfl ⟨rfl, rfl, rfl, rfl, rfl⟩ rfl rfl rfl rfl rfl (by kernel_rfl) Tryd.func7 (by kernel_rfl)
    (of_decide_eq_true (by kernel_rfl)) (by unfold Func.isWrapper; first | (rw [if_pos (by decide +kernel)]; kernel_rfl) | (rw [if_neg (by decide +kernel)]; exact ⟨rfl, rfl⟩))
    (fun os started H enc _ => more_lifted os started H enc)
/-- The statement: the tied card. -/
theorem more_holds : Rows.RegsMoreCardSaid :=
  Claim7.holds_tied_plain_at .later [] [.data, .data] true (true, "ac32f26734a021b20e5cb6fdc4fc5afb4b5bcfe70bad10671e65af6571bcaed2") false
    more_row (fun _ h => by cases h) (by kernel_rfl) (fun _ h => by cases h) regsMore_row_tie rfl ⟨rfl, rfl⟩ (by kernel_rfl) rfl
    (fun f fn hf hfn => by
      obtain rfl : f = 7 := Option.some.inj ((show Tryd.prog.funcNamed "facsimile/facsimilelaw22.RegsMore" = some 7 by kernel_rfl).symm.trans hf) |>.symm
      obtain rfl : fn = Tryd.f7 := (Option.some.inj (Tryd.func7.symm.trans hfn)).symm
      exact ⟨by kernel_rfl, fun j t ht => by
        have h := List.all_eq_true.1 (show (Tryd.f7.params.toList.all fun t => !Tryd.prog.wantsStandIn t) = true by kernel_rfl) t (List.mem_of_getElem? (by simpa using ht))
        exact (show Tryd.prog.wantsStandIn t = false by simpa using h)⟩)
    (by kernel_rfl)
#print axioms more_holds
end Go.Proofs.YtnbpgipbfejllaaDoor
