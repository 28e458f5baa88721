/-
  No cell of these rows narrows 'for every input' (looked for: loops, veiled, ifaces, maps, wideKeys, modest, calm, conditions, laid).
  DERIVED. THE GIVEN ROWS OF THIS SEAT. 6 by the template 'for every input the law returns true; each argument reads behind the call as it read before'; 0 by the template 'total and deterministic' (their statements: YtfnghfbggieagaaTotals.lean).
  GIVEN WITH THE SEED: the statements are not yours to turn. If you find one false, say at which input.
  Laid BY PROGRAM, IN A SANDBOX (cutbox-rows.mjs): the forced cells as the released guide's own fill.sh prints them over the translation 6216a5824217d143… (all of the seat's roots in one cut). By AI agents, Wed Nov 11 2026. No macro, syntax, notation, axiom, sorry.
-/
import Derived.Test.YtfnghfbggieagaaChecked
import GoSem.Claim
import GoSem.ClaimJoined
import GoSem.ClaimMapViews
import Derived.JoinedTies
import Derived.KernelRfl
namespace Go.Proofs.Ytfnghfbggieagaa
/- THE CELL 'sum', in the pinned program and in every row, IS THE sha256 OF THE DUMP (.gsa) THAT YtfnghfbggieagaaProg.lean LOADS. Nothing in Lean hashes anything: it is a label: what it is worth is what the hold of that sum in a sandbox is worth. -/
noncomputable def Try.pinned : Pinned := { name := "ytfnghfbggieagaa", sum := "6216a5824217d1434d314789f0c2512077b064d8fc2a177c297bdc238f6cc8d7", checked := Try.checked }
namespace Rows
def none {H : Type} : Left H := { results := [], args := [] }

/-- 'revetmentlaw07.LayoutTurns': WHATEVER THE INPUT: true; the input reads as it did. -/
def layoutTurnsSpec : ChangeSpec := { name := "layoutTurns", fn := fun _ => fun
  | [d1, d2, d3, d4] => { results := [.lit (.bool true)], args := [d1, d2, d3, d4] }
  | _ => none }
def layoutTurnsRow : OpenClaim := { program := "ytfnghfbggieagaa", sum := "6216a5824217d1434d314789f0c2512077b064d8fc2a177c297bdc238f6cc8d7", func := "revetment/revetmentlaw07.LayoutTurns", spec := "layoutTurns", apart := false }
def LayoutTurnsSaid : Prop := layoutTurnsRow.holds Try.pinned (OpenSpec.ofChange layoutTurnsSpec)

/-- ITS FALSE NEIGHBOUR: 'it returns false'. Refute it at one input. -/
def layoutTurnsWrong : ChangeSpec := { name := "layoutTurns", fn := fun _ => fun
  | [d1, d2, d3, d4] => { results := [.lit (.bool false)], args := [d1, d2, d3, d4] }
  | _ => none }
def LayoutTurnsWrongFalsely : Prop := layoutTurnsRow.holds Try.pinned (OpenSpec.ofChange layoutTurnsWrong)

/-- 'revetmentlaw07.LayoutRoles': WHATEVER THE INPUT: true; the input reads as it did. -/
def layoutRolesSpec : ChangeSpec := { name := "layoutRoles", fn := fun _ => fun
  | [d1, d2, d3] => { results := [.lit (.bool true)], args := [d1, d2, d3] }
  | _ => none }
def layoutRolesRow : OpenClaim := { program := "ytfnghfbggieagaa", sum := "6216a5824217d1434d314789f0c2512077b064d8fc2a177c297bdc238f6cc8d7", func := "revetment/revetmentlaw07.LayoutRoles", spec := "layoutRoles", apart := false }
def LayoutRolesSaid : Prop := layoutRolesRow.holds Try.pinned (OpenSpec.ofChange layoutRolesSpec)

/-- ITS FALSE NEIGHBOUR: 'it returns false'. Refute it at one input. -/
def layoutRolesWrong : ChangeSpec := { name := "layoutRoles", fn := fun _ => fun
  | [d1, d2, d3] => { results := [.lit (.bool false)], args := [d1, d2, d3] }
  | _ => none }
def LayoutRolesWrongFalsely : Prop := layoutRolesRow.holds Try.pinned (OpenSpec.ofChange layoutRolesWrong)

/-- 'revetmentlaw07.LayoutNeeds': WHATEVER THE INPUT: true; the input reads as it did. -/
def layoutNeedsSpec : ChangeSpec := { name := "layoutNeeds", fn := fun _ => fun
  | [d1, d2, d3, d4, d5, d6] => { results := [.lit (.bool true)], args := [d1, d2, d3, d4, d5, d6] }
  | _ => none }
def layoutNeedsRow : OpenClaim := { program := "ytfnghfbggieagaa", sum := "6216a5824217d1434d314789f0c2512077b064d8fc2a177c297bdc238f6cc8d7", func := "revetment/revetmentlaw07.LayoutNeeds", spec := "layoutNeeds", apart := false }
def LayoutNeedsSaid : Prop := layoutNeedsRow.holds Try.pinned (OpenSpec.ofChange layoutNeedsSpec)

/-- ITS FALSE NEIGHBOUR: 'it returns false'. Refute it at one input. -/
def layoutNeedsWrong : ChangeSpec := { name := "layoutNeeds", fn := fun _ => fun
  | [d1, d2, d3, d4, d5, d6] => { results := [.lit (.bool false)], args := [d1, d2, d3, d4, d5, d6] }
  | _ => none }
def LayoutNeedsWrongFalsely : Prop := layoutNeedsRow.holds Try.pinned (OpenSpec.ofChange layoutNeedsWrong)

/-- 'revetmentlaw07.LayoutBack': WHATEVER THE INPUT: true; the input reads as it did. -/
def layoutBackSpec : ChangeSpec := { name := "layoutBack", fn := fun _ => fun
  | [d1, d2, d3, d4] => { results := [.lit (.bool true)], args := [d1, d2, d3, d4] }
  | _ => none }
def layoutBackRow : OpenClaim := { program := "ytfnghfbggieagaa", sum := "6216a5824217d1434d314789f0c2512077b064d8fc2a177c297bdc238f6cc8d7", func := "revetment/revetmentlaw07.LayoutBack", spec := "layoutBack", apart := false }
def LayoutBackSaid : Prop := layoutBackRow.holds Try.pinned (OpenSpec.ofChange layoutBackSpec)

/-- ITS FALSE NEIGHBOUR: 'it returns false'. Refute it at one input. -/
def layoutBackWrong : ChangeSpec := { name := "layoutBack", fn := fun _ => fun
  | [d1, d2, d3, d4] => { results := [.lit (.bool false)], args := [d1, d2, d3, d4] }
  | _ => none }
def LayoutBackWrongFalsely : Prop := layoutBackRow.holds Try.pinned (OpenSpec.ofChange layoutBackWrong)

/-- 'revetmentlaw07.LayoutApart': WHATEVER THE INPUT: true; the input reads as it did. -/
def layoutApartSpec : ChangeSpec := { name := "layoutApart", fn := fun _ => fun
  | [d1, d2, d3, d4, d5] => { results := [.lit (.bool true)], args := [d1, d2, d3, d4, d5] }
  | _ => none }
def layoutApartRow : OpenClaim := { program := "ytfnghfbggieagaa", sum := "6216a5824217d1434d314789f0c2512077b064d8fc2a177c297bdc238f6cc8d7", func := "revetment/revetmentlaw07.LayoutApart", spec := "layoutApart", apart := false }
def LayoutApartSaid : Prop := layoutApartRow.holds Try.pinned (OpenSpec.ofChange layoutApartSpec)

/-- ITS FALSE NEIGHBOUR: 'it returns false'. Refute it at one input. -/
def layoutApartWrong : ChangeSpec := { name := "layoutApart", fn := fun _ => fun
  | [d1, d2, d3, d4, d5] => { results := [.lit (.bool false)], args := [d1, d2, d3, d4, d5] }
  | _ => none }
def LayoutApartWrongFalsely : Prop := layoutApartRow.holds Try.pinned (OpenSpec.ofChange layoutApartWrong)

/-- 'revetmentlaw07.LayoutTells': WHATEVER THE INPUT: true; the input reads as it did. -/
def layoutTellsSpec : ChangeSpec := { name := "layoutTells", fn := fun _ => fun
  | [d1, d2, d3, d4, d5] => { results := [.lit (.bool true)], args := [d1, d2, d3, d4, d5] }
  | _ => none }
def layoutTellsRow : OpenClaim := { program := "ytfnghfbggieagaa", sum := "6216a5824217d1434d314789f0c2512077b064d8fc2a177c297bdc238f6cc8d7", func := "revetment/revetmentlaw07.LayoutTells", spec := "layoutTells", apart := false }
def LayoutTellsSaid : Prop := layoutTellsRow.holds Try.pinned (OpenSpec.ofChange layoutTellsSpec)

/-- ITS FALSE NEIGHBOUR: 'it returns false'. Refute it at one input. -/
def layoutTellsWrong : ChangeSpec := { name := "layoutTells", fn := fun _ => fun
  | [d1, d2, d3, d4, d5] => { results := [.lit (.bool false)], args := [d1, d2, d3, d4, d5] }
  | _ => none }
def LayoutTellsWrongFalsely : Prop := layoutTellsRow.holds Try.pinned (OpenSpec.ofChange layoutTellsWrong)

/- THE SECOND FORM. 'bulk': how many values and letters a reading holds, each counted each time it is reached (what is shared counts as often as it is met; a slice's spare places count too). A statement '..UptoSaid' is the law's where the arguments, and the package variables that the reading takes, are together of bulk at most 1048576: NARROWER than '..Said'. Prove '..Said' where nothing that the law and all that it calls make is longer than what came in: it says more and counts as full. Else prove '..UptoSaid'. A law counts once. -/
mutual
def uptoBulk {H : Type} : DataW H → Nat
  | .lit (.string bytes) => bytes.length + 1
  | .lit _ => 1
  | .nil => 1
  | .ptr d => uptoBulk d + 1
  | .slice elems spare => uptoBulkAll elems + uptoBulkAll spare + 1
  | .agg parts => uptoBulkAll parts + 1
  | .iface _ d => uptoBulk d + 1
  | .map entries => uptoBulkEntries entries + 1
  | .held _ => 1
def uptoBulkAll {H : Type} : List (DataW H) → Nat
  | [] => 0
  | d :: r => uptoBulk d + uptoBulkAll r
def uptoBulkEntries {H : Type} : List (Lit × DataW H) → Nat
  | [] => 0
  | x :: r => uptoBulkEntry x + uptoBulkEntries r
def uptoBulkEntry {H : Type} : Lit × DataW H → Nat
  | (.string bytes, d) => bytes.length + uptoBulk d + 1
  | (_, d) => uptoBulk d + 1
 end
def uptoSmall : (H : Type) → List (DataW H) → Bool := fun _ ds => decide (uptoBulkAll ds ≤ 1048576)
def OpenSpec.upto (s : _root_.Go.ChangeSpec) : _root_.Go.OpenSpec := { _root_.Go.OpenSpec.ofChange s with cond := some uptoSmall }

/-- 'revetmentlaw07.LayoutTurns', WHERE WHAT IT READS IS OF BULK AT MOST 1048576: true; the input reads as it did. -/
def layoutTurnsUptoRow : OpenClaim := { program := "ytfnghfbggieagaa", sum := "6216a5824217d1434d314789f0c2512077b064d8fc2a177c297bdc238f6cc8d7", func := "revetment/revetmentlaw07.LayoutTurns", spec := "layoutTurns", apart := false, narrowed := true }
def LayoutTurnsUptoSaid : Prop := layoutTurnsUptoRow.holds Try.pinned (OpenSpec.upto layoutTurnsSpec)

/-- 'revetmentlaw07.LayoutRoles', WHERE WHAT IT READS IS OF BULK AT MOST 1048576: true; the input reads as it did. -/
def layoutRolesUptoRow : OpenClaim := { program := "ytfnghfbggieagaa", sum := "6216a5824217d1434d314789f0c2512077b064d8fc2a177c297bdc238f6cc8d7", func := "revetment/revetmentlaw07.LayoutRoles", spec := "layoutRoles", apart := false, narrowed := true }
def LayoutRolesUptoSaid : Prop := layoutRolesUptoRow.holds Try.pinned (OpenSpec.upto layoutRolesSpec)

/-- 'revetmentlaw07.LayoutNeeds', WHERE WHAT IT READS IS OF BULK AT MOST 1048576: true; the input reads as it did. -/
def layoutNeedsUptoRow : OpenClaim := { program := "ytfnghfbggieagaa", sum := "6216a5824217d1434d314789f0c2512077b064d8fc2a177c297bdc238f6cc8d7", func := "revetment/revetmentlaw07.LayoutNeeds", spec := "layoutNeeds", apart := false, narrowed := true }
def LayoutNeedsUptoSaid : Prop := layoutNeedsUptoRow.holds Try.pinned (OpenSpec.upto layoutNeedsSpec)

/-- 'revetmentlaw07.LayoutBack', WHERE WHAT IT READS IS OF BULK AT MOST 1048576: true; the input reads as it did. -/
def layoutBackUptoRow : OpenClaim := { program := "ytfnghfbggieagaa", sum := "6216a5824217d1434d314789f0c2512077b064d8fc2a177c297bdc238f6cc8d7", func := "revetment/revetmentlaw07.LayoutBack", spec := "layoutBack", apart := false, narrowed := true }
def LayoutBackUptoSaid : Prop := layoutBackUptoRow.holds Try.pinned (OpenSpec.upto layoutBackSpec)

/-- 'revetmentlaw07.LayoutApart', WHERE WHAT IT READS IS OF BULK AT MOST 1048576: true; the input reads as it did. -/
def layoutApartUptoRow : OpenClaim := { program := "ytfnghfbggieagaa", sum := "6216a5824217d1434d314789f0c2512077b064d8fc2a177c297bdc238f6cc8d7", func := "revetment/revetmentlaw07.LayoutApart", spec := "layoutApart", apart := false, narrowed := true }
def LayoutApartUptoSaid : Prop := layoutApartUptoRow.holds Try.pinned (OpenSpec.upto layoutApartSpec)

/-- 'revetmentlaw07.LayoutTells', WHERE WHAT IT READS IS OF BULK AT MOST 1048576: true; the input reads as it did. -/
def layoutTellsUptoRow : OpenClaim := { program := "ytfnghfbggieagaa", sum := "6216a5824217d1434d314789f0c2512077b064d8fc2a177c297bdc238f6cc8d7", func := "revetment/revetmentlaw07.LayoutTells", spec := "layoutTells", apart := false, narrowed := true }
def LayoutTellsUptoSaid : Prop := layoutTellsUptoRow.holds Try.pinned (OpenSpec.upto layoutTellsSpec)

end Rows
end Go.Proofs.Ytfnghfbggieagaa
