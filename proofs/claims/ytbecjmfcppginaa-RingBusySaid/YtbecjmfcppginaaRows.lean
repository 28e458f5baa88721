/-
  No cell of these rows narrows 'for every input' (looked for: loops, veiled, ifaces, maps, wideKeys, modest, calm, conditions, laid).
  DERIVED. THE GIVEN ROWS OF THIS SEAT. 4 by the template 'for every input the law returns true; each argument reads behind the call as it read before'; 0 by the template 'total and deterministic' (their statements: YtbecjmfcppginaaTotals.lean).
  GIVEN WITH THE SEED: the statements are not yours to turn. If you find one false, say at which input.
  Laid BY PROGRAM, IN A SANDBOX (cutbox-rows.mjs): the forced cells as the released guide's own fill.sh prints them over the translation 885eb5bb641a33f2… (all of the seat's roots in one cut). By AI agents, Wed Nov 11 2026. No macro, syntax, notation, axiom, sorry.
-/
import Derived.Test.YtbecjmfcppginaaChecked
import GoSem.Claim
import GoSem.ClaimJoined
import GoSem.ClaimMapViews
import Derived.JoinedTies
import Derived.KernelRfl
namespace Go.Proofs.Ytbecjmfcppginaa
/- THE CELL 'sum', in the pinned program and in every row, IS THE sha256 OF THE DUMP (.gsa) THAT YtbecjmfcppginaaProg.lean LOADS. Nothing in Lean hashes anything: it is a label: what it is worth is what the hold of that sum in a sandbox is worth. -/
noncomputable def Try.pinned : Pinned := { name := "ytbecjmfcppginaa", sum := "885eb5bb641a33f2d0ec63c353a13eb80e37da9b64db91d0634e58f982ac13ac", checked := Try.checked }
namespace Rows
def none {H : Type} : Left H := { results := [], args := [] }

/-- 'revetmentlaw13.RingEmpty': WHATEVER THE INPUT: true; the input reads as it did. -/
def ringEmptySpec : ChangeSpec := { name := "ringEmpty", fn := fun _ => fun
  | [d1, d2] => { results := [.lit (.bool true)], args := [d1, d2] }
  | _ => none }
def ringEmptyRow : OpenClaim := { program := "ytbecjmfcppginaa", sum := "885eb5bb641a33f2d0ec63c353a13eb80e37da9b64db91d0634e58f982ac13ac", func := "revetment/revetmentlaw13.RingEmpty", spec := "ringEmpty", inPlace := ["internal/abi.NoEscape", "internal/bytealg.MakeNoZero"], unfollowed := true, recurses := true, plainKeys := false, apart := false }
def RingEmptySaid : Prop := ringEmptyRow.holds Try.pinned (OpenSpec.ofChange ringEmptySpec)

/-- ITS FALSE NEIGHBOUR: 'it returns false'. Refute it at one input. -/
def ringEmptyWrong : ChangeSpec := { name := "ringEmpty", fn := fun _ => fun
  | [d1, d2] => { results := [.lit (.bool false)], args := [d1, d2] }
  | _ => none }
def RingEmptyWrongFalsely : Prop := ringEmptyRow.holds Try.pinned (OpenSpec.ofChange ringEmptyWrong)

/-- 'revetmentlaw13.RingTorn': WHATEVER THE INPUT: true; the input reads as it did. -/
def ringTornSpec : ChangeSpec := { name := "ringTorn", fn := fun _ => fun
  | [d1, d2, d3, d4] => { results := [.lit (.bool true)], args := [d1, d2, d3, d4] }
  | _ => none }
def ringTornRow : OpenClaim := { program := "ytbecjmfcppginaa", sum := "885eb5bb641a33f2d0ec63c353a13eb80e37da9b64db91d0634e58f982ac13ac", func := "revetment/revetmentlaw13.RingTorn", spec := "ringTorn", inPlace := ["internal/abi.NoEscape", "internal/bytealg.MakeNoZero"], unfollowed := true, recurses := true, plainKeys := false, apart := false }
def RingTornSaid : Prop := ringTornRow.holds Try.pinned (OpenSpec.ofChange ringTornSpec)

/-- ITS FALSE NEIGHBOUR: 'it returns false'. Refute it at one input. -/
def ringTornWrong : ChangeSpec := { name := "ringTorn", fn := fun _ => fun
  | [d1, d2, d3, d4] => { results := [.lit (.bool false)], args := [d1, d2, d3, d4] }
  | _ => none }
def RingTornWrongFalsely : Prop := ringTornRow.holds Try.pinned (OpenSpec.ofChange ringTornWrong)

/-- 'revetmentlaw13.RingBusy': WHATEVER THE INPUT: true; the input reads as it did. -/
def ringBusySpec : ChangeSpec := { name := "ringBusy", fn := fun _ => fun
  | [d1, d2, d3] => { results := [.lit (.bool true)], args := [d1, d2, d3] }
  | _ => none }
def ringBusyRow : OpenClaim := { program := "ytbecjmfcppginaa", sum := "885eb5bb641a33f2d0ec63c353a13eb80e37da9b64db91d0634e58f982ac13ac", func := "revetment/revetmentlaw13.RingBusy", spec := "ringBusy", inPlace := ["internal/abi.NoEscape", "internal/bytealg.MakeNoZero"], unfollowed := true, recurses := true, plainKeys := false, apart := false }
def RingBusySaid : Prop := ringBusyRow.holds Try.pinned (OpenSpec.ofChange ringBusySpec)

/-- ITS FALSE NEIGHBOUR: 'it returns false'. Refute it at one input. -/
def ringBusyWrong : ChangeSpec := { name := "ringBusy", fn := fun _ => fun
  | [d1, d2, d3] => { results := [.lit (.bool false)], args := [d1, d2, d3] }
  | _ => none }
def RingBusyWrongFalsely : Prop := ringBusyRow.holds Try.pinned (OpenSpec.ofChange ringBusyWrong)

/-- 'revetmentlaw13.RingFinds': WHATEVER THE INPUT: true; the input reads as it did. -/
def ringFindsSpec : ChangeSpec := { name := "ringFinds", fn := fun _ => fun
  | [d1, d2, d3, d4] => { results := [.lit (.bool true)], args := [d1, d2, d3, d4] }
  | _ => none }
def ringFindsRow : OpenClaim := { program := "ytbecjmfcppginaa", sum := "885eb5bb641a33f2d0ec63c353a13eb80e37da9b64db91d0634e58f982ac13ac", func := "revetment/revetmentlaw13.RingFinds", spec := "ringFinds", inPlace := ["internal/abi.NoEscape", "internal/bytealg.MakeNoZero"], unfollowed := true, recurses := true, plainKeys := false, apart := false }
def RingFindsSaid : Prop := ringFindsRow.holds Try.pinned (OpenSpec.ofChange ringFindsSpec)

/-- ITS FALSE NEIGHBOUR: 'it returns false'. Refute it at one input. -/
def ringFindsWrong : ChangeSpec := { name := "ringFinds", fn := fun _ => fun
  | [d1, d2, d3, d4] => { results := [.lit (.bool false)], args := [d1, d2, d3, d4] }
  | _ => none }
def RingFindsWrongFalsely : Prop := ringFindsRow.holds Try.pinned (OpenSpec.ofChange ringFindsWrong)

/- THE SECOND FORM. 'bulk': how many values and letters a reading holds, each counted each time it is reached (what is shared counts as often as it is met; a slice's spare places count too). A statement '..UptoSaid' is the law's where the arguments, and the package variables that the reading takes, are together of bulk at most 1048576: NARROWER than '..Said'. Prove '..Said' where nothing that the law and all that it calls make is longer than what came in: it says more and counts as full. Else prove '..UptoSaid'. A law counts once. -/
mutual
def uptoBulk {H : Type} : DataW H → Nat
  | .lit (.string bytes) => bytes.length + 1
  | .lit _ => 1
  | .nil => 1
  | .ptr d => uptoBulk d + 1
  | .slice elems spare => uptoBulkAll elems + uptoBulkAll spare + 1
  | .agg parts => uptoBulkAll parts + 1
  | .iface _ d => uptoBulk d + 1
  | .map entries => uptoBulkEntries entries + 1
  | .held _ => 1
def uptoBulkAll {H : Type} : List (DataW H) → Nat
  | [] => 0
  | d :: r => uptoBulk d + uptoBulkAll r
def uptoBulkEntries {H : Type} : List (Lit × DataW H) → Nat
  | [] => 0
  | x :: r => uptoBulkEntry x + uptoBulkEntries r
def uptoBulkEntry {H : Type} : Lit × DataW H → Nat
  | (.string bytes, d) => bytes.length + uptoBulk d + 1
  | (_, d) => uptoBulk d + 1
 end
def uptoSmall : (H : Type) → List (DataW H) → Bool := fun _ ds => decide (uptoBulkAll ds ≤ 1048576)
def OpenSpec.upto (s : _root_.Go.ChangeSpec) : _root_.Go.OpenSpec := { _root_.Go.OpenSpec.ofChange s with cond := some uptoSmall }

/-- 'revetmentlaw13.RingEmpty', WHERE WHAT IT READS IS OF BULK AT MOST 1048576: true; the input reads as it did. -/
def ringEmptyUptoRow : OpenClaim := { program := "ytbecjmfcppginaa", sum := "885eb5bb641a33f2d0ec63c353a13eb80e37da9b64db91d0634e58f982ac13ac", func := "revetment/revetmentlaw13.RingEmpty", spec := "ringEmpty", inPlace := ["internal/abi.NoEscape", "internal/bytealg.MakeNoZero"], unfollowed := true, recurses := true, plainKeys := false, apart := false, narrowed := true }
def RingEmptyUptoSaid : Prop := ringEmptyUptoRow.holds Try.pinned (OpenSpec.upto ringEmptySpec)

/-- 'revetmentlaw13.RingTorn', WHERE WHAT IT READS IS OF BULK AT MOST 1048576: true; the input reads as it did. -/
def ringTornUptoRow : OpenClaim := { program := "ytbecjmfcppginaa", sum := "885eb5bb641a33f2d0ec63c353a13eb80e37da9b64db91d0634e58f982ac13ac", func := "revetment/revetmentlaw13.RingTorn", spec := "ringTorn", inPlace := ["internal/abi.NoEscape", "internal/bytealg.MakeNoZero"], unfollowed := true, recurses := true, plainKeys := false, apart := false, narrowed := true }
def RingTornUptoSaid : Prop := ringTornUptoRow.holds Try.pinned (OpenSpec.upto ringTornSpec)

/-- 'revetmentlaw13.RingBusy', WHERE WHAT IT READS IS OF BULK AT MOST 1048576: true; the input reads as it did. -/
def ringBusyUptoRow : OpenClaim := { program := "ytbecjmfcppginaa", sum := "885eb5bb641a33f2d0ec63c353a13eb80e37da9b64db91d0634e58f982ac13ac", func := "revetment/revetmentlaw13.RingBusy", spec := "ringBusy", inPlace := ["internal/abi.NoEscape", "internal/bytealg.MakeNoZero"], unfollowed := true, recurses := true, plainKeys := false, apart := false, narrowed := true }
def RingBusyUptoSaid : Prop := ringBusyUptoRow.holds Try.pinned (OpenSpec.upto ringBusySpec)

/-- 'revetmentlaw13.RingFinds', WHERE WHAT IT READS IS OF BULK AT MOST 1048576: true; the input reads as it did. -/
def ringFindsUptoRow : OpenClaim := { program := "ytbecjmfcppginaa", sum := "885eb5bb641a33f2d0ec63c353a13eb80e37da9b64db91d0634e58f982ac13ac", func := "revetment/revetmentlaw13.RingFinds", spec := "ringFinds", inPlace := ["internal/abi.NoEscape", "internal/bytealg.MakeNoZero"], unfollowed := true, recurses := true, plainKeys := false, apart := false, narrowed := true }
def RingFindsUptoSaid : Prop := ringFindsUptoRow.holds Try.pinned (OpenSpec.upto ringFindsSpec)

end Rows
end Go.Proofs.Ytbecjmfcppginaa
