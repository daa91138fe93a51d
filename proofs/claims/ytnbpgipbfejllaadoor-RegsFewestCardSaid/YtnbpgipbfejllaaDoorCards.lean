/-
  DERIVED. GIVEN WITH THE SEED: THE CARDS: each row of YtnbpgipbfejllaaDoorRows.lean that lists a variable, with what it lists TIED to the program's text (the seventh form; the later family's looks); each row that meets fmt, with fmt's text TOLD by the authors' own Lean function (tested against real Go, not proved from fmt's source: count such statements apart). THE CARD IS WHAT COUNTS. Prove the row's statement (the work); the ties are given (YtnbpgipbfejllaaDoorTie.lean); close each card by the builder's one call (the guide's Derived/Test/ToyasCard.lean, 'card_holds'). Laid BY PROGRAM, IN A SANDBOX (cutbox-door.mjs). By AI agents, Wed Nov 11 2026. No macro, syntax, notation, axiom, sorry.
-/
import Derived.Test.YtnbpgipbfejllaaDoorRows
import GoSem.ClaimSeven
namespace Go.Proofs.YtnbpgipbfejllaaDoor
namespace Rows

/-- THE TIED CARD OF 'facsimilelaw22.RegsAllocates'. -/
def regsAllocatesCard : Claim7 := { stood := { row := regsAllocatesRow, standIns := [], harness := (true, "ac32f26734a021b20e5cb6fdc4fc5afb4b5bcfe70bad10671e65af6571bcaed2"), looks := false }, kinds := [], alts := [], laidByText := true, laidKinds := [.data, .data], laidTests := true, laidLooks := .later }
def RegsAllocatesCardSaid : Prop := Claim7.holds Tryd.pinned (.plain (OpenSpec.ofChange regsAllocatesSpec)) regsAllocatesCard

/-- THE TIED CARD OF 'facsimilelaw22.RegsChecks'. -/
def regsChecksCard : Claim7 := { stood := { row := regsChecksRow, standIns := [], harness := (true, "ac32f26734a021b20e5cb6fdc4fc5afb4b5bcfe70bad10671e65af6571bcaed2"), looks := false }, kinds := [], alts := [], laidByText := true, laidKinds := [.data, .data], laidTests := true, laidLooks := .later }
def RegsChecksCardSaid : Prop := Claim7.holds Tryd.pinned (.plain (OpenSpec.ofChange regsChecksSpec)) regsChecksCard

/-- THE TIED CARD OF 'facsimilelaw22.RegsKeeps'. -/
def regsKeepsCard : Claim7 := { stood := { row := regsKeepsRow, standIns := [], harness := (true, "ac32f26734a021b20e5cb6fdc4fc5afb4b5bcfe70bad10671e65af6571bcaed2"), looks := false }, kinds := [], alts := [], laidByText := true, laidKinds := [.data, .data], laidTests := true, laidLooks := .later }
def RegsKeepsCardSaid : Prop := Claim7.holds Tryd.pinned (.plain (OpenSpec.ofChange regsKeepsSpec)) regsKeepsCard

/-- THE TIED CARD OF 'facsimilelaw22.RegsFewest'. -/
def regsFewestCard : Claim7 := { stood := { row := regsFewestRow, standIns := [], harness := (true, "ac32f26734a021b20e5cb6fdc4fc5afb4b5bcfe70bad10671e65af6571bcaed2"), looks := false }, kinds := [], alts := [], laidByText := true, laidKinds := [.data, .data], laidTests := true, laidLooks := .later }
def RegsFewestCardSaid : Prop := Claim7.holds Tryd.pinned (.plain (OpenSpec.ofChange regsFewestSpec)) regsFewestCard

/-- THE TIED CARD OF 'facsimilelaw22.RegsMore'. -/
def regsMoreCard : Claim7 := { stood := { row := regsMoreRow, standIns := [], harness := (true, "ac32f26734a021b20e5cb6fdc4fc5afb4b5bcfe70bad10671e65af6571bcaed2"), looks := false }, kinds := [], alts := [], laidByText := true, laidKinds := [.data, .data], laidTests := true, laidLooks := .later }
def RegsMoreCardSaid : Prop := Claim7.holds Tryd.pinned (.plain (OpenSpec.ofChange regsMoreSpec)) regsMoreCard

/-- THE TIED CARD OF 'facsimilelaw22.RegsSpans'. -/
def regsSpansCard : Claim7 := { stood := { row := regsSpansRow, standIns := [], harness := (true, "ac32f26734a021b20e5cb6fdc4fc5afb4b5bcfe70bad10671e65af6571bcaed2"), looks := false }, kinds := [], alts := [], laidByText := true, laidKinds := [.data, .data], laidTests := true, laidLooks := .later }
def RegsSpansCardSaid : Prop := Claim7.holds Tryd.pinned (.plain (OpenSpec.ofChange regsSpansSpec)) regsSpansCard

/-- THE TIED CARD OF 'facsimilelaw22.RegsErrors'. -/
def regsErrorsCard : Claim7 := { stood := { row := regsErrorsRow, standIns := [], harness := (true, "ac32f26734a021b20e5cb6fdc4fc5afb4b5bcfe70bad10671e65af6571bcaed2"), looks := false }, kinds := [], alts := [], laidByText := true, laidKinds := [.data, .data], laidTests := true, laidLooks := .later }
def RegsErrorsCardSaid : Prop := Claim7.holds Tryd.pinned (.plain (OpenSpec.ofChange regsErrorsSpec)) regsErrorsCard

/-- THE SECOND FORM's CARD OF 'facsimilelaw22.RegsAllocates'. -/
def regsAllocatesUptoCard : Claim7 := { stood := { row := regsAllocatesUptoRow, standIns := [], harness := (true, "ac32f26734a021b20e5cb6fdc4fc5afb4b5bcfe70bad10671e65af6571bcaed2"), looks := false }, kinds := [], alts := [], laidByText := true, laidKinds := [.data, .data], laidTests := true, laidLooks := .later }
def RegsAllocatesUptoCardSaid : Prop := Claim7.holds Tryd.pinned (.plain (OpenSpec.upto regsAllocatesSpec)) regsAllocatesUptoCard

/-- THE SECOND FORM's CARD OF 'facsimilelaw22.RegsChecks'. -/
def regsChecksUptoCard : Claim7 := { stood := { row := regsChecksUptoRow, standIns := [], harness := (true, "ac32f26734a021b20e5cb6fdc4fc5afb4b5bcfe70bad10671e65af6571bcaed2"), looks := false }, kinds := [], alts := [], laidByText := true, laidKinds := [.data, .data], laidTests := true, laidLooks := .later }
def RegsChecksUptoCardSaid : Prop := Claim7.holds Tryd.pinned (.plain (OpenSpec.upto regsChecksSpec)) regsChecksUptoCard

/-- THE SECOND FORM's CARD OF 'facsimilelaw22.RegsKeeps'. -/
def regsKeepsUptoCard : Claim7 := { stood := { row := regsKeepsUptoRow, standIns := [], harness := (true, "ac32f26734a021b20e5cb6fdc4fc5afb4b5bcfe70bad10671e65af6571bcaed2"), looks := false }, kinds := [], alts := [], laidByText := true, laidKinds := [.data, .data], laidTests := true, laidLooks := .later }
def RegsKeepsUptoCardSaid : Prop := Claim7.holds Tryd.pinned (.plain (OpenSpec.upto regsKeepsSpec)) regsKeepsUptoCard

/-- THE SECOND FORM's CARD OF 'facsimilelaw22.RegsFewest'. -/
def regsFewestUptoCard : Claim7 := { stood := { row := regsFewestUptoRow, standIns := [], harness := (true, "ac32f26734a021b20e5cb6fdc4fc5afb4b5bcfe70bad10671e65af6571bcaed2"), looks := false }, kinds := [], alts := [], laidByText := true, laidKinds := [.data, .data], laidTests := true, laidLooks := .later }
def RegsFewestUptoCardSaid : Prop := Claim7.holds Tryd.pinned (.plain (OpenSpec.upto regsFewestSpec)) regsFewestUptoCard

/-- THE SECOND FORM's CARD OF 'facsimilelaw22.RegsMore'. -/
def regsMoreUptoCard : Claim7 := { stood := { row := regsMoreUptoRow, standIns := [], harness := (true, "ac32f26734a021b20e5cb6fdc4fc5afb4b5bcfe70bad10671e65af6571bcaed2"), looks := false }, kinds := [], alts := [], laidByText := true, laidKinds := [.data, .data], laidTests := true, laidLooks := .later }
def RegsMoreUptoCardSaid : Prop := Claim7.holds Tryd.pinned (.plain (OpenSpec.upto regsMoreSpec)) regsMoreUptoCard

/-- THE SECOND FORM's CARD OF 'facsimilelaw22.RegsSpans'. -/
def regsSpansUptoCard : Claim7 := { stood := { row := regsSpansUptoRow, standIns := [], harness := (true, "ac32f26734a021b20e5cb6fdc4fc5afb4b5bcfe70bad10671e65af6571bcaed2"), looks := false }, kinds := [], alts := [], laidByText := true, laidKinds := [.data, .data], laidTests := true, laidLooks := .later }
def RegsSpansUptoCardSaid : Prop := Claim7.holds Tryd.pinned (.plain (OpenSpec.upto regsSpansSpec)) regsSpansUptoCard

/-- THE SECOND FORM's CARD OF 'facsimilelaw22.RegsErrors'. -/
def regsErrorsUptoCard : Claim7 := { stood := { row := regsErrorsUptoRow, standIns := [], harness := (true, "ac32f26734a021b20e5cb6fdc4fc5afb4b5bcfe70bad10671e65af6571bcaed2"), looks := false }, kinds := [], alts := [], laidByText := true, laidKinds := [.data, .data], laidTests := true, laidLooks := .later }
def RegsErrorsUptoCardSaid : Prop := Claim7.holds Tryd.pinned (.plain (OpenSpec.upto regsErrorsSpec)) regsErrorsUptoCard
end Rows
end Go.Proofs.YtnbpgipbfejllaaDoor
