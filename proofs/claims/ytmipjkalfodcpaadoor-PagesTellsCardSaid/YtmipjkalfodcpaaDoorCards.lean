/-
  DERIVED. GIVEN WITH THE SEED: THE CARDS: each row of YtmipjkalfodcpaaDoorRows.lean that lists a variable, with what it lists TIED to the program's text (the seventh form; the later family's looks); each row that meets fmt, with fmt's text TOLD by the authors' own Lean function (tested against real Go, not proved from fmt's source: count such statements apart). THE CARD IS WHAT COUNTS. Prove the row's statement (the work); the ties are given (YtmipjkalfodcpaaDoorTie.lean); close each card by the builder's one call (the guide's Derived/Test/ToyasCard.lean, 'card_holds'). Laid BY PROGRAM, IN A SANDBOX (cutbox-door.mjs). By AI agents, Wed Nov 11 2026. No macro, syntax, notation, axiom, sorry.
-/
import Derived.Test.YtmipjkalfodcpaaDoorRows
import GoSem.ClaimSeven
namespace Go.Proofs.YtmipjkalfodcpaaDoor
namespace Rows

/-- THE TIED CARD OF 'revetmentlaw11.PagesTells'. -/
def pagesTellsCard : Claim7 := { stood := { row := pagesTellsRow, standIns := [], harness := (true, "22ea3f7816733fad64187df193e62a64cddccbc2d7694411b665347613c3b3a2"), looks := false }, kinds := [], alts := [], laidByText := true, laidKinds := [.data, .pinned], laidTests := true, laidLooks := .later }
def PagesTellsCardSaid : Prop := Claim7.holds Tryd.pinned (.plain (OpenSpec.ofChange pagesTellsSpec)) pagesTellsCard

/-- THE TIED CARD OF 'revetmentlaw11.PagesJoined'. -/
def pagesJoinedCard : Claim7 := { stood := { row := pagesJoinedRow, standIns := [], harness := (true, "22ea3f7816733fad64187df193e62a64cddccbc2d7694411b665347613c3b3a2"), looks := false }, kinds := [], alts := [], laidByText := true, laidKinds := [.data, .pinned], laidTests := true, laidLooks := .later }
def PagesJoinedCardSaid : Prop := Claim7.holds Tryd.pinned (.plain (OpenSpec.ofChange pagesJoinedSpec)) pagesJoinedCard

/-- THE TIED CARD OF 'revetmentlaw11.PagesAll'. -/
def pagesAllCard : Claim7 := { stood := { row := pagesAllRow, standIns := [], harness := (true, "22ea3f7816733fad64187df193e62a64cddccbc2d7694411b665347613c3b3a2"), looks := false }, kinds := [], alts := [], laidByText := true, laidKinds := [.data, .pinned], laidTests := true, laidLooks := .later }
def PagesAllCardSaid : Prop := Claim7.holds Tryd.pinned (.plain (OpenSpec.ofChange pagesAllSpec)) pagesAllCard

/-- THE SECOND FORM's CARD OF 'revetmentlaw11.PagesTells'. -/
def pagesTellsUptoCard : Claim7 := { stood := { row := pagesTellsUptoRow, standIns := [], harness := (true, "22ea3f7816733fad64187df193e62a64cddccbc2d7694411b665347613c3b3a2"), looks := false }, kinds := [], alts := [], laidByText := true, laidKinds := [.data, .pinned], laidTests := true, laidLooks := .later }
def PagesTellsUptoCardSaid : Prop := Claim7.holds Tryd.pinned (.plain (OpenSpec.upto pagesTellsSpec)) pagesTellsUptoCard

/-- THE SECOND FORM's CARD OF 'revetmentlaw11.PagesJoined'. -/
def pagesJoinedUptoCard : Claim7 := { stood := { row := pagesJoinedUptoRow, standIns := [], harness := (true, "22ea3f7816733fad64187df193e62a64cddccbc2d7694411b665347613c3b3a2"), looks := false }, kinds := [], alts := [], laidByText := true, laidKinds := [.data, .pinned], laidTests := true, laidLooks := .later }
def PagesJoinedUptoCardSaid : Prop := Claim7.holds Tryd.pinned (.plain (OpenSpec.upto pagesJoinedSpec)) pagesJoinedUptoCard

/-- THE SECOND FORM's CARD OF 'revetmentlaw11.PagesAll'. -/
def pagesAllUptoCard : Claim7 := { stood := { row := pagesAllUptoRow, standIns := [], harness := (true, "22ea3f7816733fad64187df193e62a64cddccbc2d7694411b665347613c3b3a2"), looks := false }, kinds := [], alts := [], laidByText := true, laidKinds := [.data, .pinned], laidTests := true, laidLooks := .later }
def PagesAllUptoCardSaid : Prop := Claim7.holds Tryd.pinned (.plain (OpenSpec.upto pagesAllSpec)) pagesAllUptoCard
end Rows
end Go.Proofs.YtmipjkalfodcpaaDoor
