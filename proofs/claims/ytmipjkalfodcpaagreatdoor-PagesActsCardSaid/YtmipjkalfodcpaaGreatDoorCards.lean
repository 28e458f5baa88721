/-
  DERIVED. GIVEN WITH THE SEED: THE CARDS: each row of YtmipjkalfodcpaaGreatDoorRows.lean that lists a variable, with what it lists TIED to the program's text (the seventh form; the later family's looks); each row that meets fmt, with fmt's text TOLD by the authors' own Lean function (tested against real Go, not proved from fmt's source: count such statements apart). THE CARD IS WHAT COUNTS. Prove the row's statement (the work); the ties are given (YtmipjkalfodcpaaGreatDoorTie.lean); close each card by the builder's one call (the guide's Derived/Test/ToyasCard.lean, 'card_holds'). Laid BY PROGRAM, IN A SANDBOX (cutbox-door.mjs). By AI agents, Wed Nov 11 2026. No macro, syntax, notation, axiom, sorry.
-/
import Derived.Test.YtmipjkalfodcpaaGreatDoorRows
import GoSem.ClaimSeven
namespace Go.Proofs.YtmipjkalfodcpaaGreatDoor
namespace Rows

/-- THE TIED CARD OF 'revetmentlaw11.PagesActs'. -/
def pagesActsCard : Claim7 := { stood := { row := pagesActsRow, standIns := [], harness := (true, "7a960db4f108e41c774df1727fbef80215fdff77164522a0b3eeb1925cf8faf2"), looks := false }, kinds := [], alts := [], laidByText := true, laidKinds := [.data, .pinned], laidTests := true, laidLooks := .later }
def PagesActsCardSaid : Prop := Claim7.holds Tryz.pinned (.plain (OpenSpec.ofChange pagesActsSpec)) pagesActsCard

/-- THE SECOND FORM's CARD OF 'revetmentlaw11.PagesActs'. -/
def pagesActsUptoCard : Claim7 := { stood := { row := pagesActsUptoRow, standIns := [], harness := (true, "7a960db4f108e41c774df1727fbef80215fdff77164522a0b3eeb1925cf8faf2"), looks := false }, kinds := [], alts := [], laidByText := true, laidKinds := [.data, .pinned], laidTests := true, laidLooks := .later }
def PagesActsUptoCardSaid : Prop := Claim7.holds Tryz.pinned (.plain (OpenSpec.upto pagesActsSpec)) pagesActsUptoCard
end Rows
end Go.Proofs.YtmipjkalfodcpaaGreatDoor
