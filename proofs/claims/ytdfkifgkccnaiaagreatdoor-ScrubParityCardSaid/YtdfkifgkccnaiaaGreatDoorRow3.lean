import Derived.Test.YtdfkifgkccnaiaaGreatDoorRow2
/-! A law's row: two texts by value; numbers of 64 bits. -/
namespace Go.Proofs.YtdfkifgkccnaiaaGreatDoor
open Go.ChangeShapes Go.WideShapes Go.ChangeAt Go.RowKit Go.Sh
set_option linter.unusedVariables false
set_option maxRecDepth 20000
theorem u64_of {a : Int} (h : (Lit.int .u64 a).wf = true) : 0 ≤ a ∧ a < 18446744073709551616 := by
  simp [Lit.wf, IntKind.min, IntKind.max, IntKind.bits, IntKind.signed] at h
  omega
theorem arr2 {cs : Array Value} (h : cs.size = 2) {a b : Value} (h0 : cs.toList[0]? = some a) (h1 : cs.toList[1]? = some b) : cs = #[a, b] := by
  obtain ⟨l⟩ := cs
  match l, h with
  | [x, y], _ =>
    simp at h0 h1
    rw [h0, h1]
theorem open_s2 {H : Type} {enc : TypeId × Value → H} {w : World} {v : Value} {d : DataW H} {ps : List MemPlace} {r : Reach} {b0 : Nat} (hval : Value.okWide Tryz.prog w r b0 38 v) (hd : DataW.Trod enc Tryz.prog w 0 (fun _ => true) true 38 v d ps) :
    ∃ s0 s1 : ByteArray, v = .agg #[.string s0, .string s1] ∧ s0.size ≤ maxLen ∧ s1.size ≤ maxLen := by
  have ht : Tryz.prog.underlying 38 = some (.array 2 9) := by kernel_rfl
  simp only [Value.okWide, ht] at hval
  obtain ⟨cs, rfl, h2, _⟩ := hval
  have hC : Tryz.prog.cellsOf 38 = 2 := by kernel_rfl
  rw [hC] at h2
  obtain ⟨fuel, hf⟩ := hd
  have hl : leaves Tryz.prog 2 38 = some [(9, 0, 1), (9, 1, 1)] := by kernel_rfl
  have h := leaves_trod 2 38 _ cs.toList fuel _ hl (by rw [hC, Array.length_toList, h2]) hf
  obtain ⟨s0, e0, k0⟩ := leaf_str (by kernel_rfl) (h (9, 0, 1) (by simp))
  obtain ⟨s1, e1, k1⟩ := leaf_str (by kernel_rfl) (h (9, 1, 1) (by simp))
  exact ⟨s0, s1, by rw [arr2 h2 e0 e1], k0, k1⟩
end Go.Proofs.YtdfkifgkccnaiaaGreatDoor
