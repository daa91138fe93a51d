/-
  No cell of these rows narrows 'for every input' (looked for: loops, veiled, ifaces, maps, wideKeys, modest, calm, conditions, laid).
  DERIVED. THE GIVEN ROWS OF THIS SEAT. 8 by the template 'for every input the law returns true; each argument reads behind the call as it read before'; 0 by the template 'total and deterministic' (their statements: YtbbeoeoengogpaaTotals.lean).
  GIVEN WITH THE SEED: the statements are not yours to turn. If you find one false, say at which input.
  Laid BY PROGRAM, IN A SANDBOX (cutbox-rows.mjs): the forced cells as the released guide's own fill.sh prints them over the translation a1d2ce3b0ed4df39… (all of the seat's roots in one cut). By AI agents, Wed Nov 11 2026. No macro, syntax, notation, axiom, sorry.
-/
import Derived.Test.YtbbeoeoengogpaaChecked
import GoSem.Claim
import GoSem.ClaimJoined
import GoSem.ClaimMapViews
import Derived.JoinedTies
import Derived.KernelRfl
namespace Go.Proofs.Ytbbeoeoengogpaa
/- THE CELL 'sum', in the pinned program and in every row, IS THE sha256 OF THE DUMP (.gsa) THAT YtbbeoeoengogpaaProg.lean LOADS. Nothing in Lean hashes anything: it is a label: what it is worth is what the hold of that sum in a sandbox is worth. -/
noncomputable def Try.pinned : Pinned := { name := "ytbbeoeoengogpaa", sum := "a1d2ce3b0ed4df39989228b6ca9462553ee0557aad3bb037a550198553f59ea9", checked := Try.checked }
namespace Rows
def none {H : Type} : Left H := { results := [], args := [] }

/-- 'facsimilelaw06.AccountSpend': WHATEVER THE INPUT: true; the input reads as it did. -/
def accountSpendSpec : ChangeSpec := { name := "accountSpend", fn := fun _ => fun
  | [d1, d2, d3] => { results := [.lit (.bool true)], args := [d1, d2, d3] }
  | _ => none }
def accountSpendRow : OpenClaim := { program := "ytbbeoeoengogpaa", sum := "a1d2ce3b0ed4df39989228b6ca9462553ee0557aad3bb037a550198553f59ea9", func := "facsimile/facsimilelaw06.AccountSpend", spec := "accountSpend", unfollowed := true, recurses := true, apart := false }
def AccountSpendSaid : Prop := accountSpendRow.holds Try.pinned (OpenSpec.ofChange accountSpendSpec)

/-- ITS FALSE NEIGHBOUR: 'it returns false'. Refute it at one input. -/
def accountSpendWrong : ChangeSpec := { name := "accountSpend", fn := fun _ => fun
  | [d1, d2, d3] => { results := [.lit (.bool false)], args := [d1, d2, d3] }
  | _ => none }
def AccountSpendWrongFalsely : Prop := accountSpendRow.holds Try.pinned (OpenSpec.ofChange accountSpendWrong)

/-- 'facsimilelaw06.AccountTwice': WHATEVER THE INPUT: true; the input reads as it did. -/
def accountTwiceSpec : ChangeSpec := { name := "accountTwice", fn := fun _ => fun
  | [d1, d2, d3] => { results := [.lit (.bool true)], args := [d1, d2, d3] }
  | _ => none }
def accountTwiceRow : OpenClaim := { program := "ytbbeoeoengogpaa", sum := "a1d2ce3b0ed4df39989228b6ca9462553ee0557aad3bb037a550198553f59ea9", func := "facsimile/facsimilelaw06.AccountTwice", spec := "accountTwice", unfollowed := true, recurses := true, apart := false }
def AccountTwiceSaid : Prop := accountTwiceRow.holds Try.pinned (OpenSpec.ofChange accountTwiceSpec)

/-- ITS FALSE NEIGHBOUR: 'it returns false'. Refute it at one input. -/
def accountTwiceWrong : ChangeSpec := { name := "accountTwice", fn := fun _ => fun
  | [d1, d2, d3] => { results := [.lit (.bool false)], args := [d1, d2, d3] }
  | _ => none }
def AccountTwiceWrongFalsely : Prop := accountTwiceRow.holds Try.pinned (OpenSpec.ofChange accountTwiceWrong)

/-- 'facsimilelaw06.AccountWithin': WHATEVER THE INPUT: true; the input reads as it did. -/
def accountWithinSpec : ChangeSpec := { name := "accountWithin", fn := fun _ => fun
  | [d1, d2, d3] => { results := [.lit (.bool true)], args := [d1, d2, d3] }
  | _ => none }
def accountWithinRow : OpenClaim := { program := "ytbbeoeoengogpaa", sum := "a1d2ce3b0ed4df39989228b6ca9462553ee0557aad3bb037a550198553f59ea9", func := "facsimile/facsimilelaw06.AccountWithin", spec := "accountWithin", unfollowed := true, recurses := true, apart := false }
def AccountWithinSaid : Prop := accountWithinRow.holds Try.pinned (OpenSpec.ofChange accountWithinSpec)

/-- ITS FALSE NEIGHBOUR: 'it returns false'. Refute it at one input. -/
def accountWithinWrong : ChangeSpec := { name := "accountWithin", fn := fun _ => fun
  | [d1, d2, d3] => { results := [.lit (.bool false)], args := [d1, d2, d3] }
  | _ => none }
def AccountWithinWrongFalsely : Prop := accountWithinRow.holds Try.pinned (OpenSpec.ofChange accountWithinWrong)

/-- 'facsimilelaw06.AccountLines': WHATEVER THE INPUT: true; the input reads as it did. -/
def accountLinesSpec : ChangeSpec := { name := "accountLines", fn := fun _ => fun
  | [d1, d2, d3] => { results := [.lit (.bool true)], args := [d1, d2, d3] }
  | _ => none }
def accountLinesRow : OpenClaim := { program := "ytbbeoeoengogpaa", sum := "a1d2ce3b0ed4df39989228b6ca9462553ee0557aad3bb037a550198553f59ea9", func := "facsimile/facsimilelaw06.AccountLines", spec := "accountLines", unfollowed := true, recurses := true, apart := false }
def AccountLinesSaid : Prop := accountLinesRow.holds Try.pinned (OpenSpec.ofChange accountLinesSpec)

/-- ITS FALSE NEIGHBOUR: 'it returns false'. Refute it at one input. -/
def accountLinesWrong : ChangeSpec := { name := "accountLines", fn := fun _ => fun
  | [d1, d2, d3] => { results := [.lit (.bool false)], args := [d1, d2, d3] }
  | _ => none }
def AccountLinesWrongFalsely : Prop := accountLinesRow.holds Try.pinned (OpenSpec.ofChange accountLinesWrong)

/-- 'facsimilelaw06.AccountDue': WHATEVER THE INPUT: true; the input reads as it did. -/
def accountDueSpec : ChangeSpec := { name := "accountDue", fn := fun _ => fun
  | [d1, d2] => { results := [.lit (.bool true)], args := [d1, d2] }
  | _ => none }
def accountDueRow : OpenClaim := { program := "ytbbeoeoengogpaa", sum := "a1d2ce3b0ed4df39989228b6ca9462553ee0557aad3bb037a550198553f59ea9", func := "facsimile/facsimilelaw06.AccountDue", spec := "accountDue", unfollowed := true, recurses := true, apart := false }
def AccountDueSaid : Prop := accountDueRow.holds Try.pinned (OpenSpec.ofChange accountDueSpec)

/-- ITS FALSE NEIGHBOUR: 'it returns false'. Refute it at one input. -/
def accountDueWrong : ChangeSpec := { name := "accountDue", fn := fun _ => fun
  | [d1, d2] => { results := [.lit (.bool false)], args := [d1, d2] }
  | _ => none }
def AccountDueWrongFalsely : Prop := accountDueRow.holds Try.pinned (OpenSpec.ofChange accountDueWrong)

/-- 'facsimilelaw06.AccountFits': WHATEVER THE INPUT: true; the input reads as it did. -/
def accountFitsSpec : ChangeSpec := { name := "accountFits", fn := fun _ => fun
  | [d1, d2, d3] => { results := [.lit (.bool true)], args := [d1, d2, d3] }
  | _ => none }
def accountFitsRow : OpenClaim := { program := "ytbbeoeoengogpaa", sum := "a1d2ce3b0ed4df39989228b6ca9462553ee0557aad3bb037a550198553f59ea9", func := "facsimile/facsimilelaw06.AccountFits", spec := "accountFits", unfollowed := true, recurses := true, apart := false }
def AccountFitsSaid : Prop := accountFitsRow.holds Try.pinned (OpenSpec.ofChange accountFitsSpec)

/-- ITS FALSE NEIGHBOUR: 'it returns false'. Refute it at one input. -/
def accountFitsWrong : ChangeSpec := { name := "accountFits", fn := fun _ => fun
  | [d1, d2, d3] => { results := [.lit (.bool false)], args := [d1, d2, d3] }
  | _ => none }
def AccountFitsWrongFalsely : Prop := accountFitsRow.holds Try.pinned (OpenSpec.ofChange accountFitsWrong)

/-- 'facsimilelaw06.AccountSums': WHATEVER THE INPUT: true; the input reads as it did. -/
def accountSumsSpec : ChangeSpec := { name := "accountSums", fn := fun _ => fun
  | [d1, d2] => { results := [.lit (.bool true)], args := [d1, d2] }
  | _ => none }
def accountSumsRow : OpenClaim := { program := "ytbbeoeoengogpaa", sum := "a1d2ce3b0ed4df39989228b6ca9462553ee0557aad3bb037a550198553f59ea9", func := "facsimile/facsimilelaw06.AccountSums", spec := "accountSums", unfollowed := true, recurses := true, apart := false }
def AccountSumsSaid : Prop := accountSumsRow.holds Try.pinned (OpenSpec.ofChange accountSumsSpec)

/-- ITS FALSE NEIGHBOUR: 'it returns false'. Refute it at one input. -/
def accountSumsWrong : ChangeSpec := { name := "accountSums", fn := fun _ => fun
  | [d1, d2] => { results := [.lit (.bool false)], args := [d1, d2] }
  | _ => none }
def AccountSumsWrongFalsely : Prop := accountSumsRow.holds Try.pinned (OpenSpec.ofChange accountSumsWrong)

/-- 'facsimilelaw06.AccountWorlds': WHATEVER THE INPUT: true; the input reads as it did. -/
def accountWorldsSpec : ChangeSpec := { name := "accountWorlds", fn := fun _ => fun
  | [d1, d2] => { results := [.lit (.bool true)], args := [d1, d2] }
  | _ => none }
def accountWorldsRow : OpenClaim := { program := "ytbbeoeoengogpaa", sum := "a1d2ce3b0ed4df39989228b6ca9462553ee0557aad3bb037a550198553f59ea9", func := "facsimile/facsimilelaw06.AccountWorlds", spec := "accountWorlds", unfollowed := true, recurses := true, apart := false }
def AccountWorldsSaid : Prop := accountWorldsRow.holds Try.pinned (OpenSpec.ofChange accountWorldsSpec)

/-- ITS FALSE NEIGHBOUR: 'it returns false'. Refute it at one input. -/
def accountWorldsWrong : ChangeSpec := { name := "accountWorlds", fn := fun _ => fun
  | [d1, d2] => { results := [.lit (.bool false)], args := [d1, d2] }
  | _ => none }
def AccountWorldsWrongFalsely : Prop := accountWorldsRow.holds Try.pinned (OpenSpec.ofChange accountWorldsWrong)

/- THE SECOND FORM. 'bulk': how many values and letters a reading holds, each counted each time it is reached (what is shared counts as often as it is met; a slice's spare places count too). A statement '..UptoSaid' is the law's where the arguments, and the package variables that the reading takes, are together of bulk at most 1048576: NARROWER than '..Said'. Prove '..Said' where nothing that the law and all that it calls make is longer than what came in: it says more and counts as full. Else prove '..UptoSaid'. A law counts once. -/
mutual
def uptoBulk {H : Type} : DataW H → Nat
  | .lit (.string bytes) => bytes.length + 1
  | .lit _ => 1
  | .nil => 1
  | .ptr d => uptoBulk d + 1
  | .slice elems spare => uptoBulkAll elems + uptoBulkAll spare + 1
  | .agg parts => uptoBulkAll parts + 1
  | .iface _ d => uptoBulk d + 1
  | .map entries => uptoBulkEntries entries + 1
  | .held _ => 1
def uptoBulkAll {H : Type} : List (DataW H) → Nat
  | [] => 0
  | d :: r => uptoBulk d + uptoBulkAll r
def uptoBulkEntries {H : Type} : List (Lit × DataW H) → Nat
  | [] => 0
  | x :: r => uptoBulkEntry x + uptoBulkEntries r
def uptoBulkEntry {H : Type} : Lit × DataW H → Nat
  | (.string bytes, d) => bytes.length + uptoBulk d + 1
  | (_, d) => uptoBulk d + 1
 end
def uptoSmall : (H : Type) → List (DataW H) → Bool := fun _ ds => decide (uptoBulkAll ds ≤ 1048576)
def OpenSpec.upto (s : _root_.Go.ChangeSpec) : _root_.Go.OpenSpec := { _root_.Go.OpenSpec.ofChange s with cond := some uptoSmall }

/-- 'facsimilelaw06.AccountSpend', WHERE WHAT IT READS IS OF BULK AT MOST 1048576: true; the input reads as it did. -/
def accountSpendUptoRow : OpenClaim := { program := "ytbbeoeoengogpaa", sum := "a1d2ce3b0ed4df39989228b6ca9462553ee0557aad3bb037a550198553f59ea9", func := "facsimile/facsimilelaw06.AccountSpend", spec := "accountSpend", unfollowed := true, recurses := true, apart := false, narrowed := true }
def AccountSpendUptoSaid : Prop := accountSpendUptoRow.holds Try.pinned (OpenSpec.upto accountSpendSpec)

/-- 'facsimilelaw06.AccountTwice', WHERE WHAT IT READS IS OF BULK AT MOST 1048576: true; the input reads as it did. -/
def accountTwiceUptoRow : OpenClaim := { program := "ytbbeoeoengogpaa", sum := "a1d2ce3b0ed4df39989228b6ca9462553ee0557aad3bb037a550198553f59ea9", func := "facsimile/facsimilelaw06.AccountTwice", spec := "accountTwice", unfollowed := true, recurses := true, apart := false, narrowed := true }
def AccountTwiceUptoSaid : Prop := accountTwiceUptoRow.holds Try.pinned (OpenSpec.upto accountTwiceSpec)

/-- 'facsimilelaw06.AccountWithin', WHERE WHAT IT READS IS OF BULK AT MOST 1048576: true; the input reads as it did. -/
def accountWithinUptoRow : OpenClaim := { program := "ytbbeoeoengogpaa", sum := "a1d2ce3b0ed4df39989228b6ca9462553ee0557aad3bb037a550198553f59ea9", func := "facsimile/facsimilelaw06.AccountWithin", spec := "accountWithin", unfollowed := true, recurses := true, apart := false, narrowed := true }
def AccountWithinUptoSaid : Prop := accountWithinUptoRow.holds Try.pinned (OpenSpec.upto accountWithinSpec)

/-- 'facsimilelaw06.AccountLines', WHERE WHAT IT READS IS OF BULK AT MOST 1048576: true; the input reads as it did. -/
def accountLinesUptoRow : OpenClaim := { program := "ytbbeoeoengogpaa", sum := "a1d2ce3b0ed4df39989228b6ca9462553ee0557aad3bb037a550198553f59ea9", func := "facsimile/facsimilelaw06.AccountLines", spec := "accountLines", unfollowed := true, recurses := true, apart := false, narrowed := true }
def AccountLinesUptoSaid : Prop := accountLinesUptoRow.holds Try.pinned (OpenSpec.upto accountLinesSpec)

/-- 'facsimilelaw06.AccountDue', WHERE WHAT IT READS IS OF BULK AT MOST 1048576: true; the input reads as it did. -/
def accountDueUptoRow : OpenClaim := { program := "ytbbeoeoengogpaa", sum := "a1d2ce3b0ed4df39989228b6ca9462553ee0557aad3bb037a550198553f59ea9", func := "facsimile/facsimilelaw06.AccountDue", spec := "accountDue", unfollowed := true, recurses := true, apart := false, narrowed := true }
def AccountDueUptoSaid : Prop := accountDueUptoRow.holds Try.pinned (OpenSpec.upto accountDueSpec)

/-- 'facsimilelaw06.AccountFits', WHERE WHAT IT READS IS OF BULK AT MOST 1048576: true; the input reads as it did. -/
def accountFitsUptoRow : OpenClaim := { program := "ytbbeoeoengogpaa", sum := "a1d2ce3b0ed4df39989228b6ca9462553ee0557aad3bb037a550198553f59ea9", func := "facsimile/facsimilelaw06.AccountFits", spec := "accountFits", unfollowed := true, recurses := true, apart := false, narrowed := true }
def AccountFitsUptoSaid : Prop := accountFitsUptoRow.holds Try.pinned (OpenSpec.upto accountFitsSpec)

/-- 'facsimilelaw06.AccountSums', WHERE WHAT IT READS IS OF BULK AT MOST 1048576: true; the input reads as it did. -/
def accountSumsUptoRow : OpenClaim := { program := "ytbbeoeoengogpaa", sum := "a1d2ce3b0ed4df39989228b6ca9462553ee0557aad3bb037a550198553f59ea9", func := "facsimile/facsimilelaw06.AccountSums", spec := "accountSums", unfollowed := true, recurses := true, apart := false, narrowed := true }
def AccountSumsUptoSaid : Prop := accountSumsUptoRow.holds Try.pinned (OpenSpec.upto accountSumsSpec)

/-- 'facsimilelaw06.AccountWorlds', WHERE WHAT IT READS IS OF BULK AT MOST 1048576: true; the input reads as it did. -/
def accountWorldsUptoRow : OpenClaim := { program := "ytbbeoeoengogpaa", sum := "a1d2ce3b0ed4df39989228b6ca9462553ee0557aad3bb037a550198553f59ea9", func := "facsimile/facsimilelaw06.AccountWorlds", spec := "accountWorlds", unfollowed := true, recurses := true, apart := false, narrowed := true }
def AccountWorldsUptoSaid : Prop := accountWorldsUptoRow.holds Try.pinned (OpenSpec.upto accountWorldsSpec)

end Rows
end Go.Proofs.Ytbbeoeoengogpaa
