/- From a walk to a law's row: a law that answers true and leaves all that was there as it was. -/
import Derived.WalkKit
import Derived.ProofKit
import Derived.SizedLaws
import Derived.OpenShut
import Derived.Test.YtnbpgipbfejllaaDoorRows
import Derived.Test.YtnbpgipbfejllaaDoorMK0
import Derived.Test.YtnbpgipbfejllaaDoorMG33
import Derived.Test.YtnbpgipbfejllaaDoorTie
import Derived.Test.YtnbpgipbfejllaaDoorCards
import Derived.Lib.LaidTab
import Derived.ChangeSame
import Derived.ChangeVars
import Derived.JoinedOf
import Derived.LaidLaws
import Derived.Stop.LaidErr
import Derived.SevenTiedAt
namespace Go.Proofs.YtnbpgipbfejllaaDoor
open Go.ChangeShapes Go.WideShapes Go.ChangeAt Go.RowKit

section
variable {H : Type} {enc : TypeId × Value → H} {P : Program}

theorem below_trodAll (hl : laidOutB P = true) {W W' : World} (hb : Below W.heap.size W W') :
    ∀ {ts : List TypeId} {vs : List Value} {ds : List (DataW H)} {ps : List MemPlace}, ts.all (fun t => P.readableRec t && decide (t < P.types.size)) = true → (∀ x ∈ ps, x.block < W.heap.size) →
      DataW.TrodAll enc P W 0 (fun _ => true) true ts vs ds ps → DataW.TrodAll enc P W' 0 (fun b => decide (b < W.heap.size)) true ts vs ds ps
  | [], vs, ds, ps, _, _, h => by
    cases vs <;> cases ds <;> simp_all [DataW.TrodAll]
  | t :: ts, vs, ds, ps, hr, hlt, h => by
    obtain ⟨v, vs', d, ds', p, q, rfl, rfl, rfl, hd, hrest⟩ := trodAll_cons h
    simp only [List.all_cons, Bool.and_eq_true, decide_eq_true_eq] at hr
    exact ⟨p, q, Below.trod hl hr.1.1 hr.1.2 hd hb (fun x hx => hlt x (List.mem_append.2 (.inl hx))), below_trodAll hl hb hr.2 (fun x hx => hlt x (List.mem_append.2 (.inr hx))) hrest, rfl⟩
theorem trodAll_len {w : World} {base : Nat} {spare : Nat → Bool} {held : Bool} :
    ∀ {ts : List TypeId} {vs : List Value} {ds : List (DataW H)} {ps : List MemPlace}, DataW.TrodAll enc P w base spare held ts vs ds ps → ds.length = ts.length
  | [], vs, ds, ps, h => by cases vs <;> cases ds <;> simp_all [DataW.TrodAll]
  | t :: ts, vs, ds, ps, h => by
    obtain ⟨v, vs', d, ds', p, q, rfl, rfl, rfl, hd, hrest⟩ := trodAll_cons h
    simp [trodAll_len hrest]
end

end Go.Proofs.YtnbpgipbfejllaaDoor
/- Arguments that are arrays of ints, opened; bounds of numbers out of their kinds. -/
namespace Go.Proofs.YtnbpgipbfejllaaDoor
open Go.ChangeShapes Go.WideShapes Go.ChangeAt Go.RowKit
set_option linter.unusedVariables false
section
variable {H : Type} {enc : TypeId × Value → H} {P : Program} {w : World} {base : Nat} {spare : Nat → Bool} {held : Bool}

end
theorem Tryd.own : ownKnob Tryd.prog.godebug = none := by kernel_rfl
theorem Tryd.laidOut : laidOutB Tryd.prog = true := by kernel_rfl
theorem bd_u8 {x : Int} (h : (Lit.int .u8 x).wf = true) : 0 ≤ x ∧ x ≤ 255 := by
  have h1 : IntKind.u8.min = 0 := rfl
  have h2 : IntKind.u8.max = 255 := rfl
  simp only [Lit.wf, Bool.and_eq_true, decide_eq_true_eq] at h
  omega
end Go.Proofs.YtnbpgipbfejllaaDoor
/- From a walk to a law's row, where the row lists the table of TrailingZeros64 and regs.none; and to the tied card. -/
namespace Go.Proofs.YtnbpgipbfejllaaDoor
open Go.ChangeShapes Go.WideShapes Go.ChangeAt Go.RowKit
set_option linter.unusedVariables false
set_option linter.unusedSimpArgs false

/-- A law's row out of its walk, under what the row lists. -/
theorem law_lift_laid {C : Checked} {os : Os} {f : FuncId} {fn : Func} {s : ChangeSpec} {H : Type} {enc : TypeId × Value → H} {tb : TypeId} {X : World → Array Value → Prop}
    (hX : ∀ (w w' : World) (args : Array Value), w.heap = w'.heap → X w args → X w' args)
    (own : ownKnob C.prog.godebug = none) (started : os.Started) (noInit : C.prog.inits.idxOf? f = none) (hfn : C.prog.funcs[f]? = some fn)
    (witness : ∃ (w : World) (tape : Tape) (i : Input), w.os = os ∧ (w.forCall tape i).Shaped C.prog ∧ i.vars = [] ∧ Input.okWide C.prog (w.forCall tape i) .any w.heap.size f i ∧
      ((s.pre enc C.prog fn [] false (w.forCall tape i).memory i.args ∧ X (w.forCall tape i).memory i.args) ∧ sizedMet enc C.prog fn (OpenSpec.ofChange s) false (w.forCall tape i).memory i.args) ∧ ({} : Assume).holds C.prog (lone (Frame.enter C.prog f i.args .normal) [] (w.forCall tape i)))
    (hl : laidOutB C.prog = true) (hpar : fn.params.toList.all (fun t => C.prog.readableRec t && decide (t < C.prog.types.size)) = true)
    (hvars : s.vars = []) (hrt : fn.resultTypes = #[tb]) (htb : C.prog.underlying tb = some .bool)
    (hspec : ∀ ds : List (DataW H), ds.length = fn.params.toList.length → (s.fn H (ds ++ [])).results = [.lit (.bool true)] ∧ (s.fn H (ds ++ [])).args = ds ∧ (s.fn H (ds ++ [])).vars = [])
    (walk : ∀ (W : World) (base : Nat) (args : Array Value) (ds : List (DataW H)) (p : List MemPlace),
      (∀ (j : Nat) t v, fn.params[j]? = some t → args[j]? = some v → Value.okWide C.prog W .any base t v) →
      DataW.TrodAll enc C.prog W 0 (fun _ => true) true fn.params.toList args.toList ds p → (∀ x ∈ p, x.block < W.heap.size) →
      (DataW.weightsEach C.prog fn.params.toList ds).all (· ≤ reachBytes) = true → X W args →
      Calls C.prog f args W fun e W' => e = .returned (.bool true) ∧ Below W.heap.size W W') :
    ReturnsInHanded {} C os f .any (fun w args => (s.pre enc C.prog fn [] false w args ∧ X w args) ∧ sizedMet enc C.prog fn (OpenSpec.ofChange s) false w args) (s.post enc C.prog fn false true false false) := by
  refine returnsInHanded_of_change_and hX own started noInit hfn witness ?_
  intro W base args ds gs before hval hW _ hsz hx _
  have hW' := hW
  obtain ⟨p, q, hA, hV, hbef, hfz, hnd⟩ := hW
  rw [hvars] at hV
  obtain ⟨rfl, rfl⟩ := trodVars_none hV
  simp only [List.append_nil] at hbef
  subst hbef
  have hlt : ∀ x ∈ before, x.block < W.heap.size := fun x hx => by simpa using hW'.lt x (by simpa using hx)
  have hlen : ds.length = fn.params.toList.length := trodAll_len hA
  obtain ⟨e1, e2, e3⟩ := hspec ds hlen
  have hsz' : (DataW.weightsEach C.prog fn.params.toList ds).all (· ≤ reachBytes) = true := by
    have hv : s.plain.varTypes C.prog = [] := by simp [DataSpec.varTypes, ChangeSpec.plain, hvars]
    rw [hv] at hsz
    simpa using hsz
  refine (walk W base args ds before hval hA hlt hsz' hx).mono fun e W' ⟨he, hb⟩ => ?_
  subst he
  refine ⟨_, rfl, ds, [], before, [], before, [], hW', ?_, ?_, ?_, hb.frame _, fun h => by cases h⟩
  · rw [e1, hrt]
    exact trodAll_cons_mk (shut_bool htb _) trodAll_mk0
  · rw [e2]
    exact below_trodAll hl hb hpar hlt hA
  · rw [e3, hvars]
    rfl

/-- The variables that the rows list. -/
def tabs : List (String × DataW Unit) := [("math/bits.deBruijn64tab", Rows.laid_math_bits_deBruijn64tab), ("facsimile/regs.none", Rows.laid_facsimile_regs_none)]
def cellsOfTab : DataW Unit → Array Value
  | .agg l => (l.map fun d => match d with | .lit (.int k n) => Value.int k n | _ => undef).toArray
  | _ => #[]
theorem none_glob : Tryd.prog.globalNamed "facsimile/regs.none" = some 0 := by kernel_rfl
theorem tab_glob : Tryd.prog.globalNamed "math/bits.deBruijn64tab" = some 1 := by kernel_rfl
theorem nb_of_laid {W : World} (h : laidMet Tryd.prog tabs W) : NB W := by
  have h2 : laidMet Tryd.prog [("facsimile/regs.none", Lib.tabData .i64 [-1, -1])] W := laidMet.tail h
  have h3 : Lib.TabIs Tryd.prog W "facsimile/regs.none" .i64 [-1, -1] := Lib.tabIs_of_head (g := 0) (t := 34) (e := 3) (n := 2) none_glob (by kernel_rfl) (by kernel_rfl) (by kernel_rfl) (by kernel_rfl) (by kernel_rfl) h2
  unfold Lib.TabIs World.var? at h3
  rw [none_glob] at h3
  simp only [Option.bind_some] at h3
  split at h3
  · rename_i cs t fr hh
    injection h3 with h3
    subst h3
    exact ⟨t, fr, hh⟩
  · cases h3
theorem tb_of_laid {W : World} (h : laidMet Tryd.prog tabs W) : TBW W := by
  have e : (Rows.laid_math_bits_deBruijn64tab : DataW Unit) = Lib.tabData .u8 (Lib.deBruijn64tab.map fun n : Nat => (n : Int)) := by kernel_rfl
  have h2 : laidMet Tryd.prog (("math/bits.deBruijn64tab", Lib.tabData .u8 (Lib.deBruijn64tab.map fun n : Nat => (n : Int))) :: [("facsimile/regs.none", Rows.laid_facsimile_regs_none)]) W := by rw [← e]; exact h
  have h3 : Lib.TabIs Tryd.prog W "math/bits.deBruijn64tab" .u8 (Lib.deBruijn64tab.map fun n : Nat => (n : Int)) := Lib.tabIs_of_head (g := 1) (t := 132) (e := 5) (n := 64) tab_glob (by kernel_rfl) (by kernel_rfl) (by kernel_rfl) (by kernel_rfl) (by kernel_rfl) h2
  unfold Lib.TabIs World.var? at h3
  rw [tab_glob] at h3
  simp only [Option.bind_some] at h3
  split at h3
  · rename_i cs t fr hh
    injection h3 with h3
    refine ⟨cs, t, fr, hh, fun j hj => ?_⟩
    rw [h3, List.getElem?_toArray, List.getElem?_map, List.getElem?_map, List.getElem?_eq_getElem hj, List.getD_eq_getElem?_getD, List.getElem?_eq_getElem hj]
    rfl
  · cases h3
/-- A start that fits: the settled world, the variables as their initialisers lay them. -/
noncomputable def laidWorld (os : Os) : World :=
  let w0 := World.holding Tryd.prog os ⟨#[], #[], []⟩
  let put (h : Array Obj) (g : Nat) (cs : Array Value) : Array Obj := h.modify g fun
    | .cells _ t frozen => .cells cs t frozen
    | o => o
  { w0 with heap := put (put w0.heap 1 (cellsOfTab Rows.laid_math_bits_deBruijn64tab)) 0 (cellsOfTab Rows.laid_facsimile_regs_none) }
theorem laidWorld_met (os : Os) (args : Array Value) : laidMet Tryd.prog tabs ((laidWorld os).forCall (fun _ _ => 0) ⟨#[], args, []⟩).memory :=
  laidMet_of_run' 40 (by kernel_rfl) (by kernel_rfl)
section
variable {H : Type} {enc : TypeId × Value → H} {P : Program}
theorem ints_of_trod {W : World} {fuel : Nat} {t e : TypeId} {cs : List Value} {x : DataW H × List MemPlace} (ht : P.underlying t = some (.slice e)) (he : P.underlying e = some (.int .i64)) (hC : P.cellsOf e = 1) (hB : P.bytesOf e = 8)
    (h : DataW.trod enc P W 0 (fun _ => true) true fuel t cs = some x) (hlt : ∀ y ∈ x.2, y.block < W.heap.size) (hsz : ∀ n ∈ DataW.weights P t x.1, n ≤ reachBytes) :
    ∃ A n c xs, cs = [.slice A n c] ∧ IntsAt W A n xs ∧ n ≤ 140737488351232 := by
  rcases open_ints ht he hC h with ⟨hcs, hx⟩ | ⟨a, len', cap', zs, hcs, _, hl, hm, hz, hx, hcell, hwz⟩
  · exact ⟨none, 0, 0, [], hcs, CellsAt.nil _ _, by omega⟩
  · subst hx
    simp only [if_true] at hz
    have hreach := hsz (((lits (H := H) .i64 (zs.take len')).length + (lits (H := H) .i64 (zs.drop len')).length) * P.bytesOf e) (by simp [DataW.weights, ht])
    rw [hB] at hreach
    simp only [lits, List.length_map, List.length_take, List.length_drop, reachBytes] at hreach
    refine ⟨some a, len', cap', zs.take len', hcs, ⟨by simp [ints]; omega, by unfold maxLen at hm; omega, fun h0 => ?_⟩, by omega⟩
    obtain ⟨b, off, spot⟩ := a
    have hspot : spot = none := by simpa [Addr.add] using World.cell?_spot (hcell 0 (by omega))
    subst hspot
    have hbW : b < W.heap.size := hlt (.cell b off) (MemPlace.mem_row.2 ⟨0, by omega, by simp⟩)
    refine ⟨b, off, rfl, hbW, fun j hj => ?_⟩
    have := hcell j (by omega)
    rw [Addr.add_lit] at this
    rw [this]
    simp [ints, hj, List.getD_eq_getElem?_getD, List.getElem?_eq_getElem (show j < zs.length by omega)]
/-- A case as an argument, opened. -/
theorem open_case {W : World} {r : Reach} {b0 : Nat} {t i : TypeId} {f0 f1 f2 : Field} {v : Value} {d : DataW H} {p : List MemPlace} (ht : P.underlying t = some (.struct #[f0, f1, f2])) (hC : P.cellsOf t = 3)
    (o0 : f0.offset = 0 ∧ P.cellsOf f0.type = 1) (o1 : f1.offset = 1 ∧ P.cellsOf f1.type = 1) (o2 : f2.offset = 2 ∧ P.cellsOf f2.type = 1) (hs : P.underlying f0.type = some (.slice i)) (hi : P.underlying i = some (.int .i64)) (hCi : P.cellsOf i = 1) (hB : P.bytesOf i = 8)
    (u1 : P.underlying f1.type = some (.int .i64)) (u2 : P.underlying f2.type = some (.int .u8))
    (hv : Value.okWide P W r b0 t v) (h : DataW.Trod enc P W 0 (fun _ => true) true t v d p) (hlt : ∀ x ∈ p, x.block < W.heap.size) (hsz : ∀ n ∈ DataW.weights P t d, n ≤ reachBytes) :
    ∃ (A : Option Addr) (n c : Nat) (xs : List Int) (once : Int) (m : Nat), v = .agg #[.slice A n c, .int .i64 once, .int .u8 (m : Int)] ∧ IntsAt W A n xs ∧ n ≤ 140737488351232 ∧ m < 256 := by
  obtain ⟨cs, rfl, hsz'⟩ := okWide_struct ht hv
  obtain ⟨fuel, hf⟩ := h
  obtain ⟨ys, m, _, hx, hl, hyl, hall⟩ := DataW.trod_struct ht hf
  obtain ⟨l⟩ := cs
  have hl2 : l.length = 3 := by rw [hC] at hsz'; simpa using hsz'
  match l, hl2, ys, hyl with
  | [v0, v1, v2], _, [y0, y1, y2], _ =>
    have ecs : (Value.cells (.agg #[v0, v1, v2])).toList = [v0, v1, v2] := rfl
    simp only [Prod.mk.injEq] at hx
    obtain ⟨rfl, rfl⟩ := hx
    have a0 := hall 0 f0 rfl
    have a1 := hall 1 f1 rfl
    have a2 := hall 2 f2 rfl
    rw [o0.1, o0.2, ecs] at a0
    rw [o1.1, o1.2, ecs] at a1
    rw [o2.1, o2.2, ecs] at a2
    have w0 : ∀ n ∈ DataW.weights P f0.type y0.1, n ≤ reachBytes := fun n hn => hsz n (by simp [DataW.weights, DataW.weightsAll, DataW.weightsEach, ht, hn])
    obtain ⟨A0, n0, c0, xs0, h0, i0, b0'⟩ := ints_of_trod hs hi hCi hB (cs := [v0]) (x := y0) a0 (fun y hy => hlt y (by simp [hy])) w0
    obtain ⟨x1, e1, _, _⟩ := DataW.trod_int u1 a1
    obtain ⟨x2, e2, _, w2⟩ := DataW.trod_int u2 a2
    injection h0 with h0
    injection e1 with e1 _
    injection e2 with e2 _
    obtain ⟨hb1, hb2⟩ := bd_u8 w2
    refine ⟨A0, n0, c0, xs0, x1, x2.toNat, ?_, i0, b0', by omega⟩
    rw [h0, e1, e2, show ((x2.toNat : Nat) : Int) = x2 by omega]
end
end Go.Proofs.YtnbpgipbfejllaaDoor
