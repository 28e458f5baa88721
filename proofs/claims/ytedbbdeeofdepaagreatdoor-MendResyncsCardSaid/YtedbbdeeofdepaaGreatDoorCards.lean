/-
  DERIVED. GIVEN WITH THE SEED: THE CARDS: each row of YtedbbdeeofdepaaGreatDoorRows.lean that lists a variable, with what it lists TIED to the program's text (the seventh form; the later family's looks); each row that meets fmt, with fmt's text TOLD by the authors' own Lean function (tested against real Go, not proved from fmt's source: count such statements apart). THE CARD IS WHAT COUNTS. Prove the row's statement (the work); the ties are given (YtedbbdeeofdepaaGreatDoorTie.lean); close each card by the builder's one call (the guide's Derived/Test/ToyasCard.lean, 'card_holds'). Laid BY PROGRAM, IN A SANDBOX (cutbox-door.mjs). By AI agents, Wed Nov 11 2026. No macro, syntax, notation, axiom, sorry.
-/
import Derived.Test.YtedbbdeeofdepaaGreatDoorRows
import GoSem.ClaimSeven
namespace Go.Proofs.YtedbbdeeofdepaaGreatDoor
namespace Rows

/-- THE TIED CARD OF 'revetmentlaw19.MendRepairs'. -/
def mendRepairsCard : Claim7 := { stood := { row := mendRepairsRow, standIns := [], harness := (true, "502dd8792cd175f0d8b6dae45f402c83715a4d2ed7c47eb96ba752990c5b63cb"), looks := false }, kinds := [], alts := [], laidByText := true, laidKinds := [.data, .pinned], laidTests := true, laidLooks := .later }
def MendRepairsCardSaid : Prop := Claim7.holds Tryz.pinned (.plain (OpenSpec.ofChange mendRepairsSpec)) mendRepairsCard

/-- THE TIED CARD OF 'revetmentlaw19.MendResyncs'. -/
def mendResyncsCard : Claim7 := { stood := { row := mendResyncsRow, standIns := [], harness := (true, "502dd8792cd175f0d8b6dae45f402c83715a4d2ed7c47eb96ba752990c5b63cb"), looks := false }, kinds := [], alts := [], laidByText := true, laidKinds := [.data, .pinned], laidTests := true, laidLooks := .later }
def MendResyncsCardSaid : Prop := Claim7.holds Tryz.pinned (.plain (OpenSpec.ofChange mendResyncsSpec)) mendResyncsCard

/-- THE TIED CARD OF 'revetmentlaw19.MendRebuilds'. -/
def mendRebuildsCard : Claim7 := { stood := { row := mendRebuildsRow, standIns := [], harness := (true, "502dd8792cd175f0d8b6dae45f402c83715a4d2ed7c47eb96ba752990c5b63cb"), looks := false }, kinds := [], alts := [], laidByText := true, laidKinds := [.data, .pinned], laidTests := true, laidLooks := .later }
def MendRebuildsCardSaid : Prop := Claim7.holds Tryz.pinned (.plain (OpenSpec.ofChange mendRebuildsSpec)) mendRebuildsCard

/-- THE TIED CARD OF 'revetmentlaw19.MendOff'. -/
def mendOffCard : Claim7 := { stood := { row := mendOffRow, standIns := [], harness := (true, "502dd8792cd175f0d8b6dae45f402c83715a4d2ed7c47eb96ba752990c5b63cb"), looks := false }, kinds := [], alts := [], laidByText := true, laidKinds := [.data, .pinned], laidTests := true, laidLooks := .later }
def MendOffCardSaid : Prop := Claim7.holds Tryz.pinned (.plain (OpenSpec.ofChange mendOffSpec)) mendOffCard

/-- THE TIED CARD OF 'revetmentlaw19.MendLost'. -/
def mendLostCard : Claim7 := { stood := { row := mendLostRow, standIns := [], harness := (true, "502dd8792cd175f0d8b6dae45f402c83715a4d2ed7c47eb96ba752990c5b63cb"), looks := false }, kinds := [], alts := [], laidByText := true, laidKinds := [.data, .pinned], laidTests := true, laidLooks := .later }
def MendLostCardSaid : Prop := Claim7.holds Tryz.pinned (.plain (OpenSpec.ofChange mendLostSpec)) mendLostCard

/-- THE SECOND FORM's CARD OF 'revetmentlaw19.MendRepairs'. -/
def mendRepairsUptoCard : Claim7 := { stood := { row := mendRepairsUptoRow, standIns := [], harness := (true, "502dd8792cd175f0d8b6dae45f402c83715a4d2ed7c47eb96ba752990c5b63cb"), looks := false }, kinds := [], alts := [], laidByText := true, laidKinds := [.data, .pinned], laidTests := true, laidLooks := .later }
def MendRepairsUptoCardSaid : Prop := Claim7.holds Tryz.pinned (.plain (OpenSpec.upto mendRepairsSpec)) mendRepairsUptoCard

/-- THE SECOND FORM's CARD OF 'revetmentlaw19.MendResyncs'. -/
def mendResyncsUptoCard : Claim7 := { stood := { row := mendResyncsUptoRow, standIns := [], harness := (true, "502dd8792cd175f0d8b6dae45f402c83715a4d2ed7c47eb96ba752990c5b63cb"), looks := false }, kinds := [], alts := [], laidByText := true, laidKinds := [.data, .pinned], laidTests := true, laidLooks := .later }
def MendResyncsUptoCardSaid : Prop := Claim7.holds Tryz.pinned (.plain (OpenSpec.upto mendResyncsSpec)) mendResyncsUptoCard

/-- THE SECOND FORM's CARD OF 'revetmentlaw19.MendRebuilds'. -/
def mendRebuildsUptoCard : Claim7 := { stood := { row := mendRebuildsUptoRow, standIns := [], harness := (true, "502dd8792cd175f0d8b6dae45f402c83715a4d2ed7c47eb96ba752990c5b63cb"), looks := false }, kinds := [], alts := [], laidByText := true, laidKinds := [.data, .pinned], laidTests := true, laidLooks := .later }
def MendRebuildsUptoCardSaid : Prop := Claim7.holds Tryz.pinned (.plain (OpenSpec.upto mendRebuildsSpec)) mendRebuildsUptoCard

/-- THE SECOND FORM's CARD OF 'revetmentlaw19.MendOff'. -/
def mendOffUptoCard : Claim7 := { stood := { row := mendOffUptoRow, standIns := [], harness := (true, "502dd8792cd175f0d8b6dae45f402c83715a4d2ed7c47eb96ba752990c5b63cb"), looks := false }, kinds := [], alts := [], laidByText := true, laidKinds := [.data, .pinned], laidTests := true, laidLooks := .later }
def MendOffUptoCardSaid : Prop := Claim7.holds Tryz.pinned (.plain (OpenSpec.upto mendOffSpec)) mendOffUptoCard

/-- THE SECOND FORM's CARD OF 'revetmentlaw19.MendLost'. -/
def mendLostUptoCard : Claim7 := { stood := { row := mendLostUptoRow, standIns := [], harness := (true, "502dd8792cd175f0d8b6dae45f402c83715a4d2ed7c47eb96ba752990c5b63cb"), looks := false }, kinds := [], alts := [], laidByText := true, laidKinds := [.data, .pinned], laidTests := true, laidLooks := .later }
def MendLostUptoCardSaid : Prop := Claim7.holds Tryz.pinned (.plain (OpenSpec.upto mendLostSpec)) mendLostUptoCard
end Rows
end Go.Proofs.YtedbbdeeofdepaaGreatDoor
