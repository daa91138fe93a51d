/- RegsFewest: there are as many locations as spans that hold one place, and all registers are used before the stack: true of every case, for the given program. -/
import Derived.Test.YtnbpgipbfejllaaDoorMG64
import Derived.Test.YtnbpgipbfejllaaDoorMKL
namespace Go.Proofs.YtnbpgipbfejllaaDoor
open Go.ChangeShapes Go.WideShapes Go.ChangeAt Go.RowKit
set_option linter.unusedVariables false
set_option linter.unusedSimpArgs false

theorem fewest_walk (W : World) {A : Option Addr} {n c : Nat} {xs : List Int} (hA : IntsAt W A n xs) (hn : n ≤ 140737488351232) (once : Int) (m : Nat) (hm : m < 256) (h1 : NB W) (h2 : TBW W) :
    Calls Tryd.prog 6 #[.agg #[.slice A n c, .int .i64 once, .int .u8 (m : Int)]] W fun e w' => e = .returned (.bool true) ∧ Below W.heap.size W w' :=
  (fewestlaw_any W h1 h2 hA hn once m hm).mono (fun e w' h => ⟨h.1, below_since h.2 rfl⟩)

set_option maxRecDepth 100000 in
theorem fewest_lifted (os : Os) (started : os.Started) (H : Type) (enc : TypeId × Value → H) :
    ReturnsInHanded {} Tryd.checked os 6 .any (fun w args => (Rows.regsFewestSpec.pre enc Tryd.prog Tryd.f6 Rows.regsFewestRow.domain false w args ∧ laidMet Tryd.prog Rows.regsFewestRow.laid w) ∧ sizedMet enc Tryd.prog Tryd.f6 (OpenSpec.ofChange Rows.regsFewestSpec) false w args) (Rows.regsFewestSpec.post enc Tryd.prog Tryd.f6 false true false false) := by
  refine law_lift_laid (C := Tryd.checked) (X := fun w _ => laidMet Tryd.prog tabs w) (fun _ _ _ hh h => h.of_heap hh) Tryd.own started (by kernel_rfl) Tryd.func6
    (ChangeSpec.witness_at (enc := enc) (C := Tryd.checked) (os := os) (X := fun w _ => laidMet Tryd.prog tabs w) false (laidWorld os) #[.agg #[.slice none 0 0, .int .i64 0, .int .u8 0]] 8 rfl (by kernel_rfl) (by kernel_rfl) (by kernel_rfl) (by kernel_rfl) (by kernel_rfl) (laidWorld_met os _))
    Tryd.laidOut (by kernel_rfl) rfl rfl Tryd.underlying4 ?_ ?_
  · intro ds hl
    match ds, hl with
    | [d1], _ => exact ⟨rfl, rfl, rfl⟩
  · intro W base args ds p hval0 hA0 hlt hsz0 hL
    have hval : ∀ (j : Nat) t v, Tryd.f6.params[j]? = some t → args[j]? = some v → Value.okWide Tryd.prog W .any base t v := hval0
    have hA : DataW.TrodAll enc Tryd.prog W 0 (fun _ => true) true Tryd.f6.params.toList args.toList ds p := hA0
    have hsz : (DataW.weightsEach Tryd.prog Tryd.f6.params.toList ds).all (· ≤ reachBytes) = true := hsz0
    rw [Tryd.params6] at hA hval hsz
    clear hA0 hval0 hsz0
    obtain ⟨v0, d0, rfl, rfl, h0⟩ := trodAll_one hA
    have hlt0 : ∀ x ∈ p, x.block < W.heap.size := hlt
    obtain ⟨Ac, nc, cc, xc, oc, mc, rfl, ic, bc, lc⟩ := open_case Tryd.underlying24 (by kernel_rfl) ⟨rfl, by kernel_rfl⟩ ⟨rfl, by kernel_rfl⟩ ⟨rfl, by kernel_rfl⟩ Tryd.underlying22 Tryd.underlying3 (by kernel_rfl) (by kernel_rfl) Tryd.underlying3 Tryd.underlying5 (hval 0 24 v0 rfl rfl) h0 hlt0 (fun n hn => by have := List.all_eq_true.1 hsz n (DataW.weights_mem_each (j := 0) rfl rfl n hn); simpa using this)
    exact fewest_walk W ic bc oc mc lc (nb_of_laid hL) (tb_of_laid hL)

/-- The row. -/
theorem fewest_row : Rows.RegsFewestSaid :=
  OpenClaim.holds_of_wide 6 Tryd.f6 rfl rfl rfl rfl rfl rfl rfl ⟨rfl, rfl, rfl, rfl, rfl⟩ rfl rfl rfl rfl rfl (by kernel_rfl) Tryd.func6 (by kernel_rfl)
    (of_decide_eq_true (by kernel_rfl)) (by unfold Func.isWrapper; first | (rw [if_pos (by decide +kernel)]; kernel_rfl) | (rw [if_neg (by decide +kernel)]; exact ⟨rfl, rfl⟩))
    (fun os started H enc _ => fewest_lifted os started H enc)
/-- The statement: the tied card. -/
theorem fewest_holds : Rows.RegsFewestCardSaid :=
  Claim7.holds_tied_plain_at .later [] [.data, .data] true (true, "ac32f26734a021b20e5cb6fdc4fc5afb4b5bcfe70bad10671e65af6571bcaed2") false
    fewest_row (fun _ h => by cases h) (by kernel_rfl) (fun _ h => by cases h) regsFewest_row_tie rfl ⟨rfl, rfl⟩ (by kernel_rfl) rfl
    (fun f fn hf hfn => by
      obtain rfl : f = 6 := Option.some.inj ((show Tryd.prog.funcNamed "facsimile/facsimilelaw22.RegsFewest" = some 6 by kernel_rfl).symm.trans hf) |>.symm
      obtain rfl : fn = Tryd.f6 := (Option.some.inj (Tryd.func6.symm.trans hfn)).symm
      exact ⟨by kernel_rfl, fun j t ht => by
        have h := List.all_eq_true.1 (show (Tryd.f6.params.toList.all fun t => !Tryd.prog.wantsStandIn t) = true by kernel_rfl) t (List.mem_of_getElem? (by simpa using ht))
        exact (show Tryd.prog.wantsStandIn t = false by simpa using h)⟩)
    (by kernel_rfl)
#print axioms fewest_holds
end Go.Proofs.YtnbpgipbfejllaaDoor
