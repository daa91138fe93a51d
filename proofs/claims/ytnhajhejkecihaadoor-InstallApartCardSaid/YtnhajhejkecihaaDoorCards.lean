/-
  DERIVED. GIVEN WITH THE SEED: THE CARDS: each row of YtnhajhejkecihaaDoorRows.lean that lists a variable, with what it lists TIED to the program's text (the seventh form; the later family's looks); each row that meets fmt, with fmt's text TOLD by the authors' own Lean function (tested against real Go, not proved from fmt's source: count such statements apart). THE CARD IS WHAT COUNTS. Prove the row's statement (the work); the ties are given (YtnhajhejkecihaaDoorTie.lean); close each card by the builder's one call (the guide's Derived/Test/ToyasCard.lean, 'card_holds'). Laid BY PROGRAM, IN A SANDBOX (cutbox-door.mjs). By AI agents, Wed Nov 11 2026. No macro, syntax, notation, axiom, sorry.
-/
import Derived.Test.YtnhajhejkecihaaDoorRows
import GoSem.ClaimSeven
namespace Go.Proofs.YtnhajhejkecihaaDoor
namespace Rows

/-- THE TIED CARD OF 'facsimilelaw28.InstallPlays'. -/
def installPlaysCard : Claim7 := { stood := { row := installPlaysRow, standIns := [], harness := (true, "5af076ab2390d91f9d095ba662174c590b4b6eb6aef3ce95ba3380a4cb301d37"), looks := false }, kinds := [], alts := [], laidByText := true, laidKinds := [.data, .data, .data], laidTests := true, laidLooks := .later }
def InstallPlaysCardSaid : Prop := Claim7.holds Tryd.pinned (.plain (OpenSpec.ofChange installPlaysSpec)) installPlaysCard

/-- THE TIED CARD OF 'facsimilelaw28.InstallFresh'. -/
def installFreshCard : Claim7 := { stood := { row := installFreshRow, standIns := [], harness := (true, "5af076ab2390d91f9d095ba662174c590b4b6eb6aef3ce95ba3380a4cb301d37"), looks := false }, kinds := [], alts := [], laidByText := true, laidKinds := [.data, .data, .data], laidTests := true, laidLooks := .later }
def InstallFreshCardSaid : Prop := Claim7.holds Tryd.pinned (.plain (OpenSpec.ofChange installFreshSpec)) installFreshCard

/-- THE TIED CARD OF 'facsimilelaw28.InstallApart'. -/
def installApartCard : Claim7 := { stood := { row := installApartRow, standIns := [], harness := (true, "5af076ab2390d91f9d095ba662174c590b4b6eb6aef3ce95ba3380a4cb301d37"), looks := false }, kinds := [], alts := [], laidByText := true, laidKinds := [.data, .data, .data], laidTests := true, laidLooks := .later }
def InstallApartCardSaid : Prop := Claim7.holds Tryd.pinned (.plain (OpenSpec.ofChange installApartSpec)) installApartCard

/-- THE TIED CARD OF 'facsimilelaw28.InstallLive'. -/
def installLiveCard : Claim7 := { stood := { row := installLiveRow, standIns := [], harness := (true, "5af076ab2390d91f9d095ba662174c590b4b6eb6aef3ce95ba3380a4cb301d37"), looks := false }, kinds := [], alts := [], laidByText := true, laidKinds := [.data, .data, .data], laidTests := true, laidLooks := .later }
def InstallLiveCardSaid : Prop := Claim7.holds Tryd.pinned (.plain (OpenSpec.ofChange installLiveSpec)) installLiveCard

/-- THE TIED CARD OF 'facsimilelaw28.InstallErrors'. -/
def installErrorsCard : Claim7 := { stood := { row := installErrorsRow, standIns := [], harness := (true, "5af076ab2390d91f9d095ba662174c590b4b6eb6aef3ce95ba3380a4cb301d37"), looks := false }, kinds := [], alts := [], laidByText := true, laidKinds := [.data, .data, .data], laidTests := true, laidLooks := .later }
def InstallErrorsCardSaid : Prop := Claim7.holds Tryd.pinned (.plain (OpenSpec.ofChange installErrorsSpec)) installErrorsCard

/-- THE SECOND FORM's CARD OF 'facsimilelaw28.InstallPlays'. -/
def installPlaysUptoCard : Claim7 := { stood := { row := installPlaysUptoRow, standIns := [], harness := (true, "5af076ab2390d91f9d095ba662174c590b4b6eb6aef3ce95ba3380a4cb301d37"), looks := false }, kinds := [], alts := [], laidByText := true, laidKinds := [.data, .data, .data], laidTests := true, laidLooks := .later }
def InstallPlaysUptoCardSaid : Prop := Claim7.holds Tryd.pinned (.plain (OpenSpec.upto installPlaysSpec)) installPlaysUptoCard

/-- THE SECOND FORM's CARD OF 'facsimilelaw28.InstallFresh'. -/
def installFreshUptoCard : Claim7 := { stood := { row := installFreshUptoRow, standIns := [], harness := (true, "5af076ab2390d91f9d095ba662174c590b4b6eb6aef3ce95ba3380a4cb301d37"), looks := false }, kinds := [], alts := [], laidByText := true, laidKinds := [.data, .data, .data], laidTests := true, laidLooks := .later }
def InstallFreshUptoCardSaid : Prop := Claim7.holds Tryd.pinned (.plain (OpenSpec.upto installFreshSpec)) installFreshUptoCard

/-- THE SECOND FORM's CARD OF 'facsimilelaw28.InstallApart'. -/
def installApartUptoCard : Claim7 := { stood := { row := installApartUptoRow, standIns := [], harness := (true, "5af076ab2390d91f9d095ba662174c590b4b6eb6aef3ce95ba3380a4cb301d37"), looks := false }, kinds := [], alts := [], laidByText := true, laidKinds := [.data, .data, .data], laidTests := true, laidLooks := .later }
def InstallApartUptoCardSaid : Prop := Claim7.holds Tryd.pinned (.plain (OpenSpec.upto installApartSpec)) installApartUptoCard

/-- THE SECOND FORM's CARD OF 'facsimilelaw28.InstallLive'. -/
def installLiveUptoCard : Claim7 := { stood := { row := installLiveUptoRow, standIns := [], harness := (true, "5af076ab2390d91f9d095ba662174c590b4b6eb6aef3ce95ba3380a4cb301d37"), looks := false }, kinds := [], alts := [], laidByText := true, laidKinds := [.data, .data, .data], laidTests := true, laidLooks := .later }
def InstallLiveUptoCardSaid : Prop := Claim7.holds Tryd.pinned (.plain (OpenSpec.upto installLiveSpec)) installLiveUptoCard

/-- THE SECOND FORM's CARD OF 'facsimilelaw28.InstallErrors'. -/
def installErrorsUptoCard : Claim7 := { stood := { row := installErrorsUptoRow, standIns := [], harness := (true, "5af076ab2390d91f9d095ba662174c590b4b6eb6aef3ce95ba3380a4cb301d37"), looks := false }, kinds := [], alts := [], laidByText := true, laidKinds := [.data, .data, .data], laidTests := true, laidLooks := .later }
def InstallErrorsUptoCardSaid : Prop := Claim7.holds Tryd.pinned (.plain (OpenSpec.upto installErrorsSpec)) installErrorsUptoCard
end Rows
end Go.Proofs.YtnhajhejkecihaaDoor
