/-
  DERIVED. GIVEN WITH THE SEED: THE CARDS: each row of YtdfkifgkccnaiaaGreatDoorRows.lean that lists a variable, with what it lists TIED to the program's text (the seventh form; the later family's looks); each row that meets fmt, with fmt's text TOLD by the authors' own Lean function (tested against real Go, not proved from fmt's source: count such statements apart). THE CARD IS WHAT COUNTS. Prove the row's statement (the work); the ties are given (YtdfkifgkccnaiaaGreatDoorTie.lean); close each card by the builder's one call (the guide's Derived/Test/ToyasCard.lean, 'card_holds'). Laid BY PROGRAM, IN A SANDBOX (cutbox-door.mjs). By AI agents, Wed Nov 11 2026. No macro, syntax, notation, axiom, sorry.
-/
import Derived.Test.YtdfkifgkccnaiaaGreatDoorRows
import GoSem.ClaimSeven
namespace Go.Proofs.YtdfkifgkccnaiaaGreatDoor
namespace Rows

/-- THE TIED CARD OF 'revetmentlaw18.ScrubOne'. -/
def scrubOneCard : Claim7 := { stood := { row := scrubOneRow, standIns := [], harness := (true, "dbe6782906fed3b6001c856f63407fbb8fb89d64f8be3ff244653c6113ee4d3a"), looks := false }, kinds := [], alts := [], laidByText := true, laidKinds := [.data, .pinned], laidTests := true, laidLooks := .later }
def ScrubOneCardSaid : Prop := Claim7.holds Tryz.pinned (.plain (OpenSpec.ofChange scrubOneSpec)) scrubOneCard

/-- THE TIED CARD OF 'revetmentlaw18.ScrubMany'. -/
def scrubManyCard : Claim7 := { stood := { row := scrubManyRow, standIns := [], harness := (true, "dbe6782906fed3b6001c856f63407fbb8fb89d64f8be3ff244653c6113ee4d3a"), looks := false }, kinds := [], alts := [], laidByText := true, laidKinds := [.data, .pinned], laidTests := true, laidLooks := .later }
def ScrubManyCardSaid : Prop := Claim7.holds Tryz.pinned (.plain (OpenSpec.ofChange scrubManySpec)) scrubManyCard

/-- THE TIED CARD OF 'revetmentlaw18.ScrubTells'. -/
def scrubTellsCard : Claim7 := { stood := { row := scrubTellsRow, standIns := [], harness := (true, "dbe6782906fed3b6001c856f63407fbb8fb89d64f8be3ff244653c6113ee4d3a"), looks := false }, kinds := [], alts := [], laidByText := true, laidKinds := [.data, .pinned], laidTests := true, laidLooks := .later }
def ScrubTellsCardSaid : Prop := Claim7.holds Tryz.pinned (.plain (OpenSpec.ofChange scrubTellsSpec)) scrubTellsCard

/-- THE TIED CARD OF 'revetmentlaw18.ScrubGood'. -/
def scrubGoodCard : Claim7 := { stood := { row := scrubGoodRow, standIns := [], harness := (true, "dbe6782906fed3b6001c856f63407fbb8fb89d64f8be3ff244653c6113ee4d3a"), looks := false }, kinds := [], alts := [], laidByText := true, laidKinds := [.data, .pinned], laidTests := true, laidLooks := .later }
def ScrubGoodCardSaid : Prop := Claim7.holds Tryz.pinned (.plain (OpenSpec.ofChange scrubGoodSpec)) scrubGoodCard

/-- THE TIED CARD OF 'revetmentlaw18.ScrubParity'. -/
def scrubParityCard : Claim7 := { stood := { row := scrubParityRow, standIns := [], harness := (true, "dbe6782906fed3b6001c856f63407fbb8fb89d64f8be3ff244653c6113ee4d3a"), looks := false }, kinds := [], alts := [], laidByText := true, laidKinds := [.data, .pinned], laidTests := true, laidLooks := .later }
def ScrubParityCardSaid : Prop := Claim7.holds Tryz.pinned (.plain (OpenSpec.ofChange scrubParitySpec)) scrubParityCard

/-- THE SECOND FORM's CARD OF 'revetmentlaw18.ScrubOne'. -/
def scrubOneUptoCard : Claim7 := { stood := { row := scrubOneUptoRow, standIns := [], harness := (true, "dbe6782906fed3b6001c856f63407fbb8fb89d64f8be3ff244653c6113ee4d3a"), looks := false }, kinds := [], alts := [], laidByText := true, laidKinds := [.data, .pinned], laidTests := true, laidLooks := .later }
def ScrubOneUptoCardSaid : Prop := Claim7.holds Tryz.pinned (.plain (OpenSpec.upto scrubOneSpec)) scrubOneUptoCard

/-- THE SECOND FORM's CARD OF 'revetmentlaw18.ScrubMany'. -/
def scrubManyUptoCard : Claim7 := { stood := { row := scrubManyUptoRow, standIns := [], harness := (true, "dbe6782906fed3b6001c856f63407fbb8fb89d64f8be3ff244653c6113ee4d3a"), looks := false }, kinds := [], alts := [], laidByText := true, laidKinds := [.data, .pinned], laidTests := true, laidLooks := .later }
def ScrubManyUptoCardSaid : Prop := Claim7.holds Tryz.pinned (.plain (OpenSpec.upto scrubManySpec)) scrubManyUptoCard

/-- THE SECOND FORM's CARD OF 'revetmentlaw18.ScrubTells'. -/
def scrubTellsUptoCard : Claim7 := { stood := { row := scrubTellsUptoRow, standIns := [], harness := (true, "dbe6782906fed3b6001c856f63407fbb8fb89d64f8be3ff244653c6113ee4d3a"), looks := false }, kinds := [], alts := [], laidByText := true, laidKinds := [.data, .pinned], laidTests := true, laidLooks := .later }
def ScrubTellsUptoCardSaid : Prop := Claim7.holds Tryz.pinned (.plain (OpenSpec.upto scrubTellsSpec)) scrubTellsUptoCard

/-- THE SECOND FORM's CARD OF 'revetmentlaw18.ScrubGood'. -/
def scrubGoodUptoCard : Claim7 := { stood := { row := scrubGoodUptoRow, standIns := [], harness := (true, "dbe6782906fed3b6001c856f63407fbb8fb89d64f8be3ff244653c6113ee4d3a"), looks := false }, kinds := [], alts := [], laidByText := true, laidKinds := [.data, .pinned], laidTests := true, laidLooks := .later }
def ScrubGoodUptoCardSaid : Prop := Claim7.holds Tryz.pinned (.plain (OpenSpec.upto scrubGoodSpec)) scrubGoodUptoCard

/-- THE SECOND FORM's CARD OF 'revetmentlaw18.ScrubParity'. -/
def scrubParityUptoCard : Claim7 := { stood := { row := scrubParityUptoRow, standIns := [], harness := (true, "dbe6782906fed3b6001c856f63407fbb8fb89d64f8be3ff244653c6113ee4d3a"), looks := false }, kinds := [], alts := [], laidByText := true, laidKinds := [.data, .pinned], laidTests := true, laidLooks := .later }
def ScrubParityUptoCardSaid : Prop := Claim7.holds Tryz.pinned (.plain (OpenSpec.upto scrubParitySpec)) scrubParityUptoCard
end Rows
end Go.Proofs.YtdfkifgkccnaiaaGreatDoor
