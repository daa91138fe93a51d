/-
  NARROWER THAN 'FOR EVERY INPUT', by the rows' own cells (each row's printed sentence says how): RegsAllocates: laid · RegsChecks: laid · RegsKeeps: laid · RegsFewest: laid · RegsMore: laid · RegsSpans: laid · RegsErrors: laid.
  DERIVED. THE GIVEN ROWS OF THIS SEAT. 7 by the template 'for every input the law returns true; each argument reads behind the call as it read before'; 0 by the template 'total and deterministic' (their statements: YtnbpgipbfejllaaDoorTotals.lean).
  GIVEN WITH THE SEED: the statements are not yours to turn. If you find one false, say at which input.
  Laid BY PROGRAM, IN A SANDBOX (cutbox-rows.mjs): the forced cells as the released guide's own fill.sh prints them over the translation 8f2a70372ab9f5da… (all of the seat's roots in one cut). By AI agents, Wed Nov 11 2026. No macro, syntax, notation, axiom, sorry.
-/
import Derived.Test.YtnbpgipbfejllaaDoorChecked
import GoSem.Claim
import GoSem.ClaimJoined
import GoSem.ClaimMapViews
import Derived.JoinedTies
import Derived.KernelRfl
namespace Go.Proofs.YtnbpgipbfejllaaDoor
/- THE CELL 'sum', in the pinned program and in every row, IS THE sha256 OF THE DUMP (.gsa) THAT YtnbpgipbfejllaaDoorProg.lean LOADS. Nothing in Lean hashes anything: it is a label: what it is worth is what the hold of that sum in a sandbox is worth. -/
noncomputable def Tryd.pinned : Pinned := { name := "ytnbpgipbfejllaadoor", sum := "8f2a70372ab9f5da2b8caa2cdbb1730d517e4142dbe9aaf6c0a7fccb250763f4", checked := Tryd.checked }
namespace Rows
def none {H : Type} : Left H := { results := [], args := [] }

/- WHAT THE LISTED PACKAGE-LEVEL VARIABLES READ AS WHEN THE CALL BEGINS. Each datum BY PROGRAM (the guide's laid-datum.mjs) off the statement by which the dump's own 'gosem.cut.vars' lays the variable. In a bare row this is a premise. The card (YtnbpgipbfejllaaDoorCards.lean) ties it to the program's text. -/
def laid_math_bits_deBruijn64tab {H : Type} : DataW H := .agg [.lit (.int .u8 0), .lit (.int .u8 1), .lit (.int .u8 56), .lit (.int .u8 2), .lit (.int .u8 57), .lit (.int .u8 49), .lit (.int .u8 28), .lit (.int .u8 3), .lit (.int .u8 61), .lit (.int .u8 58), .lit (.int .u8 42), .lit (.int .u8 50), .lit (.int .u8 38), .lit (.int .u8 29), .lit (.int .u8 17), .lit (.int .u8 4), .lit (.int .u8 62), .lit (.int .u8 47), .lit (.int .u8 59), .lit (.int .u8 36), .lit (.int .u8 45), .lit (.int .u8 43), .lit (.int .u8 51), .lit (.int .u8 22), .lit (.int .u8 53), .lit (.int .u8 39), .lit (.int .u8 33), .lit (.int .u8 30), .lit (.int .u8 24), .lit (.int .u8 18), .lit (.int .u8 12), .lit (.int .u8 5), .lit (.int .u8 63), .lit (.int .u8 55), .lit (.int .u8 48), .lit (.int .u8 27), .lit (.int .u8 60), .lit (.int .u8 41), .lit (.int .u8 37), .lit (.int .u8 16), .lit (.int .u8 46), .lit (.int .u8 35), .lit (.int .u8 44), .lit (.int .u8 21), .lit (.int .u8 52), .lit (.int .u8 32), .lit (.int .u8 23), .lit (.int .u8 11), .lit (.int .u8 54), .lit (.int .u8 26), .lit (.int .u8 40), .lit (.int .u8 15), .lit (.int .u8 34), .lit (.int .u8 20), .lit (.int .u8 31), .lit (.int .u8 10), .lit (.int .u8 25), .lit (.int .u8 14), .lit (.int .u8 19), .lit (.int .u8 9), .lit (.int .u8 13), .lit (.int .u8 8), .lit (.int .u8 7), .lit (.int .u8 6)]
def laid_facsimile_regs_none {H : Type} : DataW H := .agg [.lit (.int .i64 (-1)), .lit (.int .i64 (-1))]

/-- 'facsimilelaw22.RegsAllocates': WHATEVER THE INPUT: true; the input reads as it did. -/
def regsAllocatesSpec : ChangeSpec := { name := "regsAllocates", fn := fun _ => fun
  | [d1, d2] => { results := [.lit (.bool true)], args := [d1, d2] }
  | _ => none }
def regsAllocatesRow : OpenClaim := { program := "ytnbpgipbfejllaadoor", sum := "8f2a70372ab9f5da2b8caa2cdbb1730d517e4142dbe9aaf6c0a7fccb250763f4", func := "facsimile/facsimilelaw22.RegsAllocates", spec := "regsAllocates", unfollowed := true, recurses := true, named := ["facsimile/regs.none", "math/bits.deBruijn64tab"], apart := false, laid := [("math/bits.deBruijn64tab", laid_math_bits_deBruijn64tab), ("facsimile/regs.none", laid_facsimile_regs_none)] }
def RegsAllocatesSaid : Prop := regsAllocatesRow.holds Tryd.pinned (OpenSpec.ofChange regsAllocatesSpec)

/-- ITS FALSE NEIGHBOUR: 'it returns false'. Refute it at one input. -/
def regsAllocatesWrong : ChangeSpec := { name := "regsAllocates", fn := fun _ => fun
  | [d1, d2] => { results := [.lit (.bool false)], args := [d1, d2] }
  | _ => none }
def RegsAllocatesWrongFalsely : Prop := regsAllocatesRow.holds Tryd.pinned (OpenSpec.ofChange regsAllocatesWrong)

/-- 'facsimilelaw22.RegsChecks': WHATEVER THE INPUT: true; the input reads as it did. -/
def regsChecksSpec : ChangeSpec := { name := "regsChecks", fn := fun _ => fun
  | [d1, d2] => { results := [.lit (.bool true)], args := [d1, d2] }
  | _ => none }
def regsChecksRow : OpenClaim := { program := "ytnbpgipbfejllaadoor", sum := "8f2a70372ab9f5da2b8caa2cdbb1730d517e4142dbe9aaf6c0a7fccb250763f4", func := "facsimile/facsimilelaw22.RegsChecks", spec := "regsChecks", unfollowed := true, recurses := true, named := ["facsimile/regs.none", "math/bits.deBruijn64tab"], apart := false, laid := [("math/bits.deBruijn64tab", laid_math_bits_deBruijn64tab), ("facsimile/regs.none", laid_facsimile_regs_none)] }
def RegsChecksSaid : Prop := regsChecksRow.holds Tryd.pinned (OpenSpec.ofChange regsChecksSpec)

/-- ITS FALSE NEIGHBOUR: 'it returns false'. Refute it at one input. -/
def regsChecksWrong : ChangeSpec := { name := "regsChecks", fn := fun _ => fun
  | [d1, d2] => { results := [.lit (.bool false)], args := [d1, d2] }
  | _ => none }
def RegsChecksWrongFalsely : Prop := regsChecksRow.holds Tryd.pinned (OpenSpec.ofChange regsChecksWrong)

/-- 'facsimilelaw22.RegsKeeps': WHATEVER THE INPUT: true; the input reads as it did. -/
def regsKeepsSpec : ChangeSpec := { name := "regsKeeps", fn := fun _ => fun
  | [d1, d2] => { results := [.lit (.bool true)], args := [d1, d2] }
  | _ => none }
def regsKeepsRow : OpenClaim := { program := "ytnbpgipbfejllaadoor", sum := "8f2a70372ab9f5da2b8caa2cdbb1730d517e4142dbe9aaf6c0a7fccb250763f4", func := "facsimile/facsimilelaw22.RegsKeeps", spec := "regsKeeps", unfollowed := true, recurses := true, named := ["facsimile/regs.none", "math/bits.deBruijn64tab"], apart := false, laid := [("math/bits.deBruijn64tab", laid_math_bits_deBruijn64tab), ("facsimile/regs.none", laid_facsimile_regs_none)] }
def RegsKeepsSaid : Prop := regsKeepsRow.holds Tryd.pinned (OpenSpec.ofChange regsKeepsSpec)

/-- ITS FALSE NEIGHBOUR: 'it returns false'. Refute it at one input. -/
def regsKeepsWrong : ChangeSpec := { name := "regsKeeps", fn := fun _ => fun
  | [d1, d2] => { results := [.lit (.bool false)], args := [d1, d2] }
  | _ => none }
def RegsKeepsWrongFalsely : Prop := regsKeepsRow.holds Tryd.pinned (OpenSpec.ofChange regsKeepsWrong)

/-- 'facsimilelaw22.RegsFewest': WHATEVER THE INPUT: true; the input reads as it did. -/
def regsFewestSpec : ChangeSpec := { name := "regsFewest", fn := fun _ => fun
  | [d] => { results := [.lit (.bool true)], args := [d] }
  | _ => none }
def regsFewestRow : OpenClaim := { program := "ytnbpgipbfejllaadoor", sum := "8f2a70372ab9f5da2b8caa2cdbb1730d517e4142dbe9aaf6c0a7fccb250763f4", func := "facsimile/facsimilelaw22.RegsFewest", spec := "regsFewest", unfollowed := true, recurses := true, named := ["facsimile/regs.none", "math/bits.deBruijn64tab"], apart := false, laid := [("math/bits.deBruijn64tab", laid_math_bits_deBruijn64tab), ("facsimile/regs.none", laid_facsimile_regs_none)] }
def RegsFewestSaid : Prop := regsFewestRow.holds Tryd.pinned (OpenSpec.ofChange regsFewestSpec)

/-- ITS FALSE NEIGHBOUR: 'it returns false'. Refute it at one input. -/
def regsFewestWrong : ChangeSpec := { name := "regsFewest", fn := fun _ => fun
  | [d] => { results := [.lit (.bool false)], args := [d] }
  | _ => none }
def RegsFewestWrongFalsely : Prop := regsFewestRow.holds Tryd.pinned (OpenSpec.ofChange regsFewestWrong)

/-- 'facsimilelaw22.RegsMore': WHATEVER THE INPUT: true; the input reads as it did. -/
def regsMoreSpec : ChangeSpec := { name := "regsMore", fn := fun _ => fun
  | [d1, d2] => { results := [.lit (.bool true)], args := [d1, d2] }
  | _ => none }
def regsMoreRow : OpenClaim := { program := "ytnbpgipbfejllaadoor", sum := "8f2a70372ab9f5da2b8caa2cdbb1730d517e4142dbe9aaf6c0a7fccb250763f4", func := "facsimile/facsimilelaw22.RegsMore", spec := "regsMore", unfollowed := true, recurses := true, named := ["facsimile/regs.none", "math/bits.deBruijn64tab"], apart := false, laid := [("math/bits.deBruijn64tab", laid_math_bits_deBruijn64tab), ("facsimile/regs.none", laid_facsimile_regs_none)] }
def RegsMoreSaid : Prop := regsMoreRow.holds Tryd.pinned (OpenSpec.ofChange regsMoreSpec)

/-- ITS FALSE NEIGHBOUR: 'it returns false'. Refute it at one input. -/
def regsMoreWrong : ChangeSpec := { name := "regsMore", fn := fun _ => fun
  | [d1, d2] => { results := [.lit (.bool false)], args := [d1, d2] }
  | _ => none }
def RegsMoreWrongFalsely : Prop := regsMoreRow.holds Tryd.pinned (OpenSpec.ofChange regsMoreWrong)

/-- 'facsimilelaw22.RegsSpans': WHATEVER THE INPUT: true; the input reads as it did. -/
def regsSpansSpec : ChangeSpec := { name := "regsSpans", fn := fun _ => fun
  | [d] => { results := [.lit (.bool true)], args := [d] }
  | _ => none }
def regsSpansRow : OpenClaim := { program := "ytnbpgipbfejllaadoor", sum := "8f2a70372ab9f5da2b8caa2cdbb1730d517e4142dbe9aaf6c0a7fccb250763f4", func := "facsimile/facsimilelaw22.RegsSpans", spec := "regsSpans", unfollowed := true, recurses := true, named := ["facsimile/regs.none", "math/bits.deBruijn64tab"], apart := false, laid := [("math/bits.deBruijn64tab", laid_math_bits_deBruijn64tab), ("facsimile/regs.none", laid_facsimile_regs_none)] }
def RegsSpansSaid : Prop := regsSpansRow.holds Tryd.pinned (OpenSpec.ofChange regsSpansSpec)

/-- ITS FALSE NEIGHBOUR: 'it returns false'. Refute it at one input. -/
def regsSpansWrong : ChangeSpec := { name := "regsSpans", fn := fun _ => fun
  | [d] => { results := [.lit (.bool false)], args := [d] }
  | _ => none }
def RegsSpansWrongFalsely : Prop := regsSpansRow.holds Tryd.pinned (OpenSpec.ofChange regsSpansWrong)

/-- 'facsimilelaw22.RegsErrors': WHATEVER THE INPUT: true; the input reads as it did. -/
def regsErrorsSpec : ChangeSpec := { name := "regsErrors", fn := fun _ => fun
  | [d1, d2, d3] => { results := [.lit (.bool true)], args := [d1, d2, d3] }
  | _ => none }
def regsErrorsRow : OpenClaim := { program := "ytnbpgipbfejllaadoor", sum := "8f2a70372ab9f5da2b8caa2cdbb1730d517e4142dbe9aaf6c0a7fccb250763f4", func := "facsimile/facsimilelaw22.RegsErrors", spec := "regsErrors", unfollowed := true, recurses := true, named := ["facsimile/regs.none", "math/bits.deBruijn64tab"], apart := false, laid := [("math/bits.deBruijn64tab", laid_math_bits_deBruijn64tab), ("facsimile/regs.none", laid_facsimile_regs_none)] }
def RegsErrorsSaid : Prop := regsErrorsRow.holds Tryd.pinned (OpenSpec.ofChange regsErrorsSpec)

/-- ITS FALSE NEIGHBOUR: 'it returns false'. Refute it at one input. -/
def regsErrorsWrong : ChangeSpec := { name := "regsErrors", fn := fun _ => fun
  | [d1, d2, d3] => { results := [.lit (.bool false)], args := [d1, d2, d3] }
  | _ => none }
def RegsErrorsWrongFalsely : Prop := regsErrorsRow.holds Tryd.pinned (OpenSpec.ofChange regsErrorsWrong)

/- THE SECOND FORM. 'bulk': how many values and letters a reading holds, each counted each time it is reached (what is shared counts as often as it is met; a slice's spare places count too). A statement '..UptoSaid' is the law's where the arguments, and the package variables that the reading takes, are together of bulk at most 1048576: NARROWER than '..Said'. Prove '..Said' where nothing that the law and all that it calls make is longer than what came in: it says more and counts as full. Else prove '..UptoSaid'. A law counts once. -/
mutual
def uptoBulk {H : Type} : DataW H → Nat
  | .lit (.string bytes) => bytes.length + 1
  | .lit _ => 1
  | .nil => 1
  | .ptr d => uptoBulk d + 1
  | .slice elems spare => uptoBulkAll elems + uptoBulkAll spare + 1
  | .agg parts => uptoBulkAll parts + 1
  | .iface _ d => uptoBulk d + 1
  | .map entries => uptoBulkEntries entries + 1
  | .held _ => 1
def uptoBulkAll {H : Type} : List (DataW H) → Nat
  | [] => 0
  | d :: r => uptoBulk d + uptoBulkAll r
def uptoBulkEntries {H : Type} : List (Lit × DataW H) → Nat
  | [] => 0
  | x :: r => uptoBulkEntry x + uptoBulkEntries r
def uptoBulkEntry {H : Type} : Lit × DataW H → Nat
  | (.string bytes, d) => bytes.length + uptoBulk d + 1
  | (_, d) => uptoBulk d + 1
 end
def uptoSmall : (H : Type) → List (DataW H) → Bool := fun _ ds => decide (uptoBulkAll ds ≤ 1048576)
def OpenSpec.upto (s : _root_.Go.ChangeSpec) : _root_.Go.OpenSpec := { _root_.Go.OpenSpec.ofChange s with cond := some uptoSmall }

/-- 'facsimilelaw22.RegsAllocates', WHERE WHAT IT READS IS OF BULK AT MOST 1048576: true; the input reads as it did. -/
def regsAllocatesUptoRow : OpenClaim := { program := "ytnbpgipbfejllaadoor", sum := "8f2a70372ab9f5da2b8caa2cdbb1730d517e4142dbe9aaf6c0a7fccb250763f4", func := "facsimile/facsimilelaw22.RegsAllocates", spec := "regsAllocates", unfollowed := true, recurses := true, named := ["facsimile/regs.none", "math/bits.deBruijn64tab"], apart := false, laid := [("math/bits.deBruijn64tab", laid_math_bits_deBruijn64tab), ("facsimile/regs.none", laid_facsimile_regs_none)], narrowed := true }
def RegsAllocatesUptoSaid : Prop := regsAllocatesUptoRow.holds Tryd.pinned (OpenSpec.upto regsAllocatesSpec)

/-- 'facsimilelaw22.RegsChecks', WHERE WHAT IT READS IS OF BULK AT MOST 1048576: true; the input reads as it did. -/
def regsChecksUptoRow : OpenClaim := { program := "ytnbpgipbfejllaadoor", sum := "8f2a70372ab9f5da2b8caa2cdbb1730d517e4142dbe9aaf6c0a7fccb250763f4", func := "facsimile/facsimilelaw22.RegsChecks", spec := "regsChecks", unfollowed := true, recurses := true, named := ["facsimile/regs.none", "math/bits.deBruijn64tab"], apart := false, laid := [("math/bits.deBruijn64tab", laid_math_bits_deBruijn64tab), ("facsimile/regs.none", laid_facsimile_regs_none)], narrowed := true }
def RegsChecksUptoSaid : Prop := regsChecksUptoRow.holds Tryd.pinned (OpenSpec.upto regsChecksSpec)

/-- 'facsimilelaw22.RegsKeeps', WHERE WHAT IT READS IS OF BULK AT MOST 1048576: true; the input reads as it did. -/
def regsKeepsUptoRow : OpenClaim := { program := "ytnbpgipbfejllaadoor", sum := "8f2a70372ab9f5da2b8caa2cdbb1730d517e4142dbe9aaf6c0a7fccb250763f4", func := "facsimile/facsimilelaw22.RegsKeeps", spec := "regsKeeps", unfollowed := true, recurses := true, named := ["facsimile/regs.none", "math/bits.deBruijn64tab"], apart := false, laid := [("math/bits.deBruijn64tab", laid_math_bits_deBruijn64tab), ("facsimile/regs.none", laid_facsimile_regs_none)], narrowed := true }
def RegsKeepsUptoSaid : Prop := regsKeepsUptoRow.holds Tryd.pinned (OpenSpec.upto regsKeepsSpec)

/-- 'facsimilelaw22.RegsFewest', WHERE WHAT IT READS IS OF BULK AT MOST 1048576: true; the input reads as it did. -/
def regsFewestUptoRow : OpenClaim := { program := "ytnbpgipbfejllaadoor", sum := "8f2a70372ab9f5da2b8caa2cdbb1730d517e4142dbe9aaf6c0a7fccb250763f4", func := "facsimile/facsimilelaw22.RegsFewest", spec := "regsFewest", unfollowed := true, recurses := true, named := ["facsimile/regs.none", "math/bits.deBruijn64tab"], apart := false, laid := [("math/bits.deBruijn64tab", laid_math_bits_deBruijn64tab), ("facsimile/regs.none", laid_facsimile_regs_none)], narrowed := true }
def RegsFewestUptoSaid : Prop := regsFewestUptoRow.holds Tryd.pinned (OpenSpec.upto regsFewestSpec)

/-- 'facsimilelaw22.RegsMore', WHERE WHAT IT READS IS OF BULK AT MOST 1048576: true; the input reads as it did. -/
def regsMoreUptoRow : OpenClaim := { program := "ytnbpgipbfejllaadoor", sum := "8f2a70372ab9f5da2b8caa2cdbb1730d517e4142dbe9aaf6c0a7fccb250763f4", func := "facsimile/facsimilelaw22.RegsMore", spec := "regsMore", unfollowed := true, recurses := true, named := ["facsimile/regs.none", "math/bits.deBruijn64tab"], apart := false, laid := [("math/bits.deBruijn64tab", laid_math_bits_deBruijn64tab), ("facsimile/regs.none", laid_facsimile_regs_none)], narrowed := true }
def RegsMoreUptoSaid : Prop := regsMoreUptoRow.holds Tryd.pinned (OpenSpec.upto regsMoreSpec)

/-- 'facsimilelaw22.RegsSpans', WHERE WHAT IT READS IS OF BULK AT MOST 1048576: true; the input reads as it did. -/
def regsSpansUptoRow : OpenClaim := { program := "ytnbpgipbfejllaadoor", sum := "8f2a70372ab9f5da2b8caa2cdbb1730d517e4142dbe9aaf6c0a7fccb250763f4", func := "facsimile/facsimilelaw22.RegsSpans", spec := "regsSpans", unfollowed := true, recurses := true, named := ["facsimile/regs.none", "math/bits.deBruijn64tab"], apart := false, laid := [("math/bits.deBruijn64tab", laid_math_bits_deBruijn64tab), ("facsimile/regs.none", laid_facsimile_regs_none)], narrowed := true }
def RegsSpansUptoSaid : Prop := regsSpansUptoRow.holds Tryd.pinned (OpenSpec.upto regsSpansSpec)

/-- 'facsimilelaw22.RegsErrors', WHERE WHAT IT READS IS OF BULK AT MOST 1048576: true; the input reads as it did. -/
def regsErrorsUptoRow : OpenClaim := { program := "ytnbpgipbfejllaadoor", sum := "8f2a70372ab9f5da2b8caa2cdbb1730d517e4142dbe9aaf6c0a7fccb250763f4", func := "facsimile/facsimilelaw22.RegsErrors", spec := "regsErrors", unfollowed := true, recurses := true, named := ["facsimile/regs.none", "math/bits.deBruijn64tab"], apart := false, laid := [("math/bits.deBruijn64tab", laid_math_bits_deBruijn64tab), ("facsimile/regs.none", laid_facsimile_regs_none)], narrowed := true }
def RegsErrorsUptoSaid : Prop := regsErrorsUptoRow.holds Tryd.pinned (OpenSpec.upto regsErrorsSpec)

end Rows
end Go.Proofs.YtnbpgipbfejllaaDoor
