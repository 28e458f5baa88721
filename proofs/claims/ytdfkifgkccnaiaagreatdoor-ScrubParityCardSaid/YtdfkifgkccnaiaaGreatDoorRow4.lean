import Derived.Test.YtdfkifgkccnaiaaGreatDoorRow
/-! A law's row: bytes as numbers. -/
namespace Go.Proofs.YtdfkifgkccnaiaaGreatDoor
open Go.ChangeShapes Go.WideShapes Go.ChangeAt Go.RowKit Go.Sh
theorem u8_of {a : Int} (h : (Lit.int .u8 a).wf = true) : 0 ≤ a ∧ a < 256 := by
  simp [Lit.wf, IntKind.min, IntKind.max, IntKind.bits, IntKind.signed] at h
  omega
end Go.Proofs.YtdfkifgkccnaiaaGreatDoor
