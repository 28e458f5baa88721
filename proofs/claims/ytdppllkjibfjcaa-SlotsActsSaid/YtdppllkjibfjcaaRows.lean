/-
  No cell of these rows narrows 'for every input' (looked for: loops, veiled, ifaces, maps, wideKeys, modest, calm, conditions, laid).
  DERIVED. THE GIVEN ROWS OF THIS SEAT. 9 by the template 'for every input the law returns true; each argument reads behind the call as it read before'; 0 by the template 'total and deterministic' (their statements: YtdppllkjibfjcaaTotals.lean).
  GIVEN WITH THE SEED: the statements are not yours to turn. If you find one false, say at which input.
  Laid BY PROGRAM, IN A SANDBOX (cutbox-rows.mjs): the forced cells as the released guide's own fill.sh prints them over the translation 7bb39997b6891bab… (all of the seat's roots in one cut). By AI agents, Wed Nov 11 2026. No macro, syntax, notation, axiom, sorry.
-/
import Derived.Test.YtdppllkjibfjcaaChecked
import GoSem.Claim
import GoSem.ClaimJoined
import GoSem.ClaimMapViews
import Derived.JoinedTies
import Derived.KernelRfl
namespace Go.Proofs.Ytdppllkjibfjcaa
/- THE CELL 'sum', in the pinned program and in every row, IS THE sha256 OF THE DUMP (.gsa) THAT YtdppllkjibfjcaaProg.lean LOADS. Nothing in Lean hashes anything: it is a label: what it is worth is what the hold of that sum in a sandbox is worth. -/
noncomputable def Try.pinned : Pinned := { name := "ytdppllkjibfjcaa", sum := "7bb39997b6891bab9199ac051ce8e8fd5a942fb9fc733b10b9dc8467b522500b", checked := Try.checked }
namespace Rows
def none {H : Type} : Left H := { results := [], args := [] }

/-- 'revetmentlaw04.DriveKeeps': WHATEVER THE INPUT: true; the input reads as it did. -/
def driveKeepsSpec : ChangeSpec := { name := "driveKeeps", fn := fun _ => fun
  | [d1, d2] => { results := [.lit (.bool true)], args := [d1, d2] }
  | _ => none }
def driveKeepsRow : OpenClaim := { program := "ytdppllkjibfjcaa", sum := "7bb39997b6891bab9199ac051ce8e8fd5a942fb9fc733b10b9dc8467b522500b", func := "revetment/revetmentlaw04.DriveKeeps", spec := "driveKeeps", unfollowed := true, recurses := true, apart := false }
def DriveKeepsSaid : Prop := driveKeepsRow.holds Try.pinned (OpenSpec.ofChange driveKeepsSpec)

/-- ITS FALSE NEIGHBOUR: 'it returns false'. Refute it at one input. -/
def driveKeepsWrong : ChangeSpec := { name := "driveKeeps", fn := fun _ => fun
  | [d1, d2] => { results := [.lit (.bool false)], args := [d1, d2] }
  | _ => none }
def DriveKeepsWrongFalsely : Prop := driveKeepsRow.holds Try.pinned (OpenSpec.ofChange driveKeepsWrong)

/-- 'revetmentlaw04.DriveOff': WHATEVER THE INPUT: true; the input reads as it did. -/
def driveOffSpec : ChangeSpec := { name := "driveOff", fn := fun _ => fun
  | [d1, d2, d3] => { results := [.lit (.bool true)], args := [d1, d2, d3] }
  | _ => none }
def driveOffRow : OpenClaim := { program := "ytdppllkjibfjcaa", sum := "7bb39997b6891bab9199ac051ce8e8fd5a942fb9fc733b10b9dc8467b522500b", func := "revetment/revetmentlaw04.DriveOff", spec := "driveOff", unfollowed := true, recurses := true, apart := false }
def DriveOffSaid : Prop := driveOffRow.holds Try.pinned (OpenSpec.ofChange driveOffSpec)

/-- ITS FALSE NEIGHBOUR: 'it returns false'. Refute it at one input. -/
def driveOffWrong : ChangeSpec := { name := "driveOff", fn := fun _ => fun
  | [d1, d2, d3] => { results := [.lit (.bool false)], args := [d1, d2, d3] }
  | _ => none }
def DriveOffWrongFalsely : Prop := driveOffRow.holds Try.pinned (OpenSpec.ofChange driveOffWrong)

/-- 'revetmentlaw04.DriveSpoils': WHATEVER THE INPUT: true; the input reads as it did. -/
def driveSpoilsSpec : ChangeSpec := { name := "driveSpoils", fn := fun _ => fun
  | [d1, d2, d3] => { results := [.lit (.bool true)], args := [d1, d2, d3] }
  | _ => none }
def driveSpoilsRow : OpenClaim := { program := "ytdppllkjibfjcaa", sum := "7bb39997b6891bab9199ac051ce8e8fd5a942fb9fc733b10b9dc8467b522500b", func := "revetment/revetmentlaw04.DriveSpoils", spec := "driveSpoils", unfollowed := true, recurses := true, apart := false }
def DriveSpoilsSaid : Prop := driveSpoilsRow.holds Try.pinned (OpenSpec.ofChange driveSpoilsSpec)

/-- ITS FALSE NEIGHBOUR: 'it returns false'. Refute it at one input. -/
def driveSpoilsWrong : ChangeSpec := { name := "driveSpoils", fn := fun _ => fun
  | [d1, d2, d3] => { results := [.lit (.bool false)], args := [d1, d2, d3] }
  | _ => none }
def DriveSpoilsWrongFalsely : Prop := driveSpoilsRow.holds Try.pinned (OpenSpec.ofChange driveSpoilsWrong)

/-- 'revetmentlaw04.DriveSafe': WHATEVER THE INPUT: true; the input reads as it did. -/
def driveSafeSpec : ChangeSpec := { name := "driveSafe", fn := fun _ => fun
  | [d1, d2, d3] => { results := [.lit (.bool true)], args := [d1, d2, d3] }
  | _ => none }
def driveSafeRow : OpenClaim := { program := "ytdppllkjibfjcaa", sum := "7bb39997b6891bab9199ac051ce8e8fd5a942fb9fc733b10b9dc8467b522500b", func := "revetment/revetmentlaw04.DriveSafe", spec := "driveSafe", unfollowed := true, recurses := true, apart := false }
def DriveSafeSaid : Prop := driveSafeRow.holds Try.pinned (OpenSpec.ofChange driveSafeSpec)

/-- ITS FALSE NEIGHBOUR: 'it returns false'. Refute it at one input. -/
def driveSafeWrong : ChangeSpec := { name := "driveSafe", fn := fun _ => fun
  | [d1, d2, d3] => { results := [.lit (.bool false)], args := [d1, d2, d3] }
  | _ => none }
def DriveSafeWrongFalsely : Prop := driveSafeRow.holds Try.pinned (OpenSpec.ofChange driveSafeWrong)

/-- 'revetmentlaw04.DriveDead': WHATEVER THE INPUT: true; the input reads as it did. -/
def driveDeadSpec : ChangeSpec := { name := "driveDead", fn := fun _ => fun
  | [d1, d2, d3] => { results := [.lit (.bool true)], args := [d1, d2, d3] }
  | _ => none }
def driveDeadRow : OpenClaim := { program := "ytdppllkjibfjcaa", sum := "7bb39997b6891bab9199ac051ce8e8fd5a942fb9fc733b10b9dc8467b522500b", func := "revetment/revetmentlaw04.DriveDead", spec := "driveDead", unfollowed := true, recurses := true, apart := false }
def DriveDeadSaid : Prop := driveDeadRow.holds Try.pinned (OpenSpec.ofChange driveDeadSpec)

/-- ITS FALSE NEIGHBOUR: 'it returns false'. Refute it at one input. -/
def driveDeadWrong : ChangeSpec := { name := "driveDead", fn := fun _ => fun
  | [d1, d2, d3] => { results := [.lit (.bool false)], args := [d1, d2, d3] }
  | _ => none }
def DriveDeadWrongFalsely : Prop := driveDeadRow.holds Try.pinned (OpenSpec.ofChange driveDeadWrong)

/-- 'revetmentlaw09.SlotsNone': WHATEVER THE INPUT: true; the input reads as it did. -/
def slotsNoneSpec : ChangeSpec := { name := "slotsNone", fn := fun _ => fun
  | [d1, d2, d3, d4] => { results := [.lit (.bool true)], args := [d1, d2, d3, d4] }
  | _ => none }
def slotsNoneRow : OpenClaim := { program := "ytdppllkjibfjcaa", sum := "7bb39997b6891bab9199ac051ce8e8fd5a942fb9fc733b10b9dc8467b522500b", func := "revetment/revetmentlaw09.SlotsNone", spec := "slotsNone", unfollowed := true, recurses := true, apart := false }
def SlotsNoneSaid : Prop := slotsNoneRow.holds Try.pinned (OpenSpec.ofChange slotsNoneSpec)

/-- ITS FALSE NEIGHBOUR: 'it returns false'. Refute it at one input. -/
def slotsNoneWrong : ChangeSpec := { name := "slotsNone", fn := fun _ => fun
  | [d1, d2, d3, d4] => { results := [.lit (.bool false)], args := [d1, d2, d3, d4] }
  | _ => none }
def SlotsNoneWrongFalsely : Prop := slotsNoneRow.holds Try.pinned (OpenSpec.ofChange slotsNoneWrong)

/-- 'revetmentlaw09.SlotsCrash': WHATEVER THE INPUT: true; the input reads as it did. -/
def slotsCrashSpec : ChangeSpec := { name := "slotsCrash", fn := fun _ => fun
  | [d1, d2, d3, d4, d5] => { results := [.lit (.bool true)], args := [d1, d2, d3, d4, d5] }
  | _ => none }
def slotsCrashRow : OpenClaim := { program := "ytdppllkjibfjcaa", sum := "7bb39997b6891bab9199ac051ce8e8fd5a942fb9fc733b10b9dc8467b522500b", func := "revetment/revetmentlaw09.SlotsCrash", spec := "slotsCrash", unfollowed := true, recurses := true, apart := false }
def SlotsCrashSaid : Prop := slotsCrashRow.holds Try.pinned (OpenSpec.ofChange slotsCrashSpec)

/-- ITS FALSE NEIGHBOUR: 'it returns false'. Refute it at one input. -/
def slotsCrashWrong : ChangeSpec := { name := "slotsCrash", fn := fun _ => fun
  | [d1, d2, d3, d4, d5] => { results := [.lit (.bool false)], args := [d1, d2, d3, d4, d5] }
  | _ => none }
def SlotsCrashWrongFalsely : Prop := slotsCrashRow.holds Try.pinned (OpenSpec.ofChange slotsCrashWrong)

/-- 'revetmentlaw09.SlotsNext': WHATEVER THE INPUT: true; the input reads as it did. -/
def slotsNextSpec : ChangeSpec := { name := "slotsNext", fn := fun _ => fun
  | [d1, d2, d3, d4] => { results := [.lit (.bool true)], args := [d1, d2, d3, d4] }
  | _ => none }
def slotsNextRow : OpenClaim := { program := "ytdppllkjibfjcaa", sum := "7bb39997b6891bab9199ac051ce8e8fd5a942fb9fc733b10b9dc8467b522500b", func := "revetment/revetmentlaw09.SlotsNext", spec := "slotsNext", unfollowed := true, recurses := true, apart := false }
def SlotsNextSaid : Prop := slotsNextRow.holds Try.pinned (OpenSpec.ofChange slotsNextSpec)

/-- ITS FALSE NEIGHBOUR: 'it returns false'. Refute it at one input. -/
def slotsNextWrong : ChangeSpec := { name := "slotsNext", fn := fun _ => fun
  | [d1, d2, d3, d4] => { results := [.lit (.bool false)], args := [d1, d2, d3, d4] }
  | _ => none }
def SlotsNextWrongFalsely : Prop := slotsNextRow.holds Try.pinned (OpenSpec.ofChange slotsNextWrong)

/-- 'revetmentlaw09.SlotsActs': WHATEVER THE INPUT: true; the input reads as it did. -/
def slotsActsSpec : ChangeSpec := { name := "slotsActs", fn := fun _ => fun
  | [d] => { results := [.lit (.bool true)], args := [d] }
  | _ => none }
def slotsActsRow : OpenClaim := { program := "ytdppllkjibfjcaa", sum := "7bb39997b6891bab9199ac051ce8e8fd5a942fb9fc733b10b9dc8467b522500b", func := "revetment/revetmentlaw09.SlotsActs", spec := "slotsActs", unfollowed := true, recurses := true, apart := false }
def SlotsActsSaid : Prop := slotsActsRow.holds Try.pinned (OpenSpec.ofChange slotsActsSpec)

/-- ITS FALSE NEIGHBOUR: 'it returns false'. Refute it at one input. -/
def slotsActsWrong : ChangeSpec := { name := "slotsActs", fn := fun _ => fun
  | [d] => { results := [.lit (.bool false)], args := [d] }
  | _ => none }
def SlotsActsWrongFalsely : Prop := slotsActsRow.holds Try.pinned (OpenSpec.ofChange slotsActsWrong)

/- THE SECOND FORM. 'bulk': how many values and letters a reading holds, each counted each time it is reached (what is shared counts as often as it is met; a slice's spare places count too). A statement '..UptoSaid' is the law's where the arguments, and the package variables that the reading takes, are together of bulk at most 1048576: NARROWER than '..Said'. Prove '..Said' where nothing that the law and all that it calls make is longer than what came in: it says more and counts as full. Else prove '..UptoSaid'. A law counts once. -/
mutual
def uptoBulk {H : Type} : DataW H → Nat
  | .lit (.string bytes) => bytes.length + 1
  | .lit _ => 1
  | .nil => 1
  | .ptr d => uptoBulk d + 1
  | .slice elems spare => uptoBulkAll elems + uptoBulkAll spare + 1
  | .agg parts => uptoBulkAll parts + 1
  | .iface _ d => uptoBulk d + 1
  | .map entries => uptoBulkEntries entries + 1
  | .held _ => 1
def uptoBulkAll {H : Type} : List (DataW H) → Nat
  | [] => 0
  | d :: r => uptoBulk d + uptoBulkAll r
def uptoBulkEntries {H : Type} : List (Lit × DataW H) → Nat
  | [] => 0
  | x :: r => uptoBulkEntry x + uptoBulkEntries r
def uptoBulkEntry {H : Type} : Lit × DataW H → Nat
  | (.string bytes, d) => bytes.length + uptoBulk d + 1
  | (_, d) => uptoBulk d + 1
 end
def uptoSmall : (H : Type) → List (DataW H) → Bool := fun _ ds => decide (uptoBulkAll ds ≤ 1048576)
def OpenSpec.upto (s : _root_.Go.ChangeSpec) : _root_.Go.OpenSpec := { _root_.Go.OpenSpec.ofChange s with cond := some uptoSmall }

/-- 'revetmentlaw04.DriveKeeps', WHERE WHAT IT READS IS OF BULK AT MOST 1048576: true; the input reads as it did. -/
def driveKeepsUptoRow : OpenClaim := { program := "ytdppllkjibfjcaa", sum := "7bb39997b6891bab9199ac051ce8e8fd5a942fb9fc733b10b9dc8467b522500b", func := "revetment/revetmentlaw04.DriveKeeps", spec := "driveKeeps", unfollowed := true, recurses := true, apart := false, narrowed := true }
def DriveKeepsUptoSaid : Prop := driveKeepsUptoRow.holds Try.pinned (OpenSpec.upto driveKeepsSpec)

/-- 'revetmentlaw04.DriveOff', WHERE WHAT IT READS IS OF BULK AT MOST 1048576: true; the input reads as it did. -/
def driveOffUptoRow : OpenClaim := { program := "ytdppllkjibfjcaa", sum := "7bb39997b6891bab9199ac051ce8e8fd5a942fb9fc733b10b9dc8467b522500b", func := "revetment/revetmentlaw04.DriveOff", spec := "driveOff", unfollowed := true, recurses := true, apart := false, narrowed := true }
def DriveOffUptoSaid : Prop := driveOffUptoRow.holds Try.pinned (OpenSpec.upto driveOffSpec)

/-- 'revetmentlaw04.DriveSpoils', WHERE WHAT IT READS IS OF BULK AT MOST 1048576: true; the input reads as it did. -/
def driveSpoilsUptoRow : OpenClaim := { program := "ytdppllkjibfjcaa", sum := "7bb39997b6891bab9199ac051ce8e8fd5a942fb9fc733b10b9dc8467b522500b", func := "revetment/revetmentlaw04.DriveSpoils", spec := "driveSpoils", unfollowed := true, recurses := true, apart := false, narrowed := true }
def DriveSpoilsUptoSaid : Prop := driveSpoilsUptoRow.holds Try.pinned (OpenSpec.upto driveSpoilsSpec)

/-- 'revetmentlaw04.DriveSafe', WHERE WHAT IT READS IS OF BULK AT MOST 1048576: true; the input reads as it did. -/
def driveSafeUptoRow : OpenClaim := { program := "ytdppllkjibfjcaa", sum := "7bb39997b6891bab9199ac051ce8e8fd5a942fb9fc733b10b9dc8467b522500b", func := "revetment/revetmentlaw04.DriveSafe", spec := "driveSafe", unfollowed := true, recurses := true, apart := false, narrowed := true }
def DriveSafeUptoSaid : Prop := driveSafeUptoRow.holds Try.pinned (OpenSpec.upto driveSafeSpec)

/-- 'revetmentlaw04.DriveDead', WHERE WHAT IT READS IS OF BULK AT MOST 1048576: true; the input reads as it did. -/
def driveDeadUptoRow : OpenClaim := { program := "ytdppllkjibfjcaa", sum := "7bb39997b6891bab9199ac051ce8e8fd5a942fb9fc733b10b9dc8467b522500b", func := "revetment/revetmentlaw04.DriveDead", spec := "driveDead", unfollowed := true, recurses := true, apart := false, narrowed := true }
def DriveDeadUptoSaid : Prop := driveDeadUptoRow.holds Try.pinned (OpenSpec.upto driveDeadSpec)

/-- 'revetmentlaw09.SlotsNone', WHERE WHAT IT READS IS OF BULK AT MOST 1048576: true; the input reads as it did. -/
def slotsNoneUptoRow : OpenClaim := { program := "ytdppllkjibfjcaa", sum := "7bb39997b6891bab9199ac051ce8e8fd5a942fb9fc733b10b9dc8467b522500b", func := "revetment/revetmentlaw09.SlotsNone", spec := "slotsNone", unfollowed := true, recurses := true, apart := false, narrowed := true }
def SlotsNoneUptoSaid : Prop := slotsNoneUptoRow.holds Try.pinned (OpenSpec.upto slotsNoneSpec)

/-- 'revetmentlaw09.SlotsCrash', WHERE WHAT IT READS IS OF BULK AT MOST 1048576: true; the input reads as it did. -/
def slotsCrashUptoRow : OpenClaim := { program := "ytdppllkjibfjcaa", sum := "7bb39997b6891bab9199ac051ce8e8fd5a942fb9fc733b10b9dc8467b522500b", func := "revetment/revetmentlaw09.SlotsCrash", spec := "slotsCrash", unfollowed := true, recurses := true, apart := false, narrowed := true }
def SlotsCrashUptoSaid : Prop := slotsCrashUptoRow.holds Try.pinned (OpenSpec.upto slotsCrashSpec)

/-- 'revetmentlaw09.SlotsNext', WHERE WHAT IT READS IS OF BULK AT MOST 1048576: true; the input reads as it did. -/
def slotsNextUptoRow : OpenClaim := { program := "ytdppllkjibfjcaa", sum := "7bb39997b6891bab9199ac051ce8e8fd5a942fb9fc733b10b9dc8467b522500b", func := "revetment/revetmentlaw09.SlotsNext", spec := "slotsNext", unfollowed := true, recurses := true, apart := false, narrowed := true }
def SlotsNextUptoSaid : Prop := slotsNextUptoRow.holds Try.pinned (OpenSpec.upto slotsNextSpec)

/-- 'revetmentlaw09.SlotsActs', WHERE WHAT IT READS IS OF BULK AT MOST 1048576: true; the input reads as it did. -/
def slotsActsUptoRow : OpenClaim := { program := "ytdppllkjibfjcaa", sum := "7bb39997b6891bab9199ac051ce8e8fd5a942fb9fc733b10b9dc8467b522500b", func := "revetment/revetmentlaw09.SlotsActs", spec := "slotsActs", unfollowed := true, recurses := true, apart := false, narrowed := true }
def SlotsActsUptoSaid : Prop := slotsActsUptoRow.holds Try.pinned (OpenSpec.upto slotsActsSpec)

end Rows
end Go.Proofs.Ytdppllkjibfjcaa
