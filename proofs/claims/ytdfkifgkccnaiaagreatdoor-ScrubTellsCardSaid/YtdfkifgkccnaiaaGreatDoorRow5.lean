import Derived.Test.YtdfkifgkccnaiaaGreatDoorRow
/-! A law's row: slices of strings and of numbers, with their room. -/
namespace Go.Sh
open Go.ChangeShapes Go.WideShapes Go.ChangeAt Go.RowKit
set_option linter.unusedVariables false
section
variable {H : Type} {enc : TypeId × Value → H} {P : Program} {w : World} {r : Reach} {b0 : Nat} {t e : TypeId} {v : Value} {d : DataW H} {ps : List MemPlace}
theorem open_strs5 (ht : P.underlying t = some (.slice e)) (he : P.underlying e = some .string) (hc : P.cellsOf e = 1) (hval : Value.okWide P w r b0 t v) (hd : DataW.Trod enc P w 0 (fun _ => true) true t v d ps) :
    ∃ (p : Option Addr) (c : Nat) (l : List ByteArray), v = .slice p l.length c ∧ (l ≠ [] → ∃ a, p = some a) ∧ (∀ a, p = some a → ∀ j s, l[j]? = some s → w.cell? (a.add j) = some (.string s)) ∧ l.length ≤ c ∧ ∀ s ∈ l, s.size ≤ maxLen := by
  obtain ⟨a0, len, cap, rfl⟩ := okWide_slice ht hval
  obtain ⟨fuel, hf⟩ := hd
  rcases open_strings ht he hc hf with ⟨h0, -⟩ | ⟨a, len', cap', ss, h0, h1, h2, h3, h4, h5, h6, h7⟩
  · have : a0 = none ∧ len = 0 ∧ cap = 0 := by simpa [Value.cells] using h0
    obtain ⟨rfl, rfl, rfl⟩ := this
    exact ⟨none, 0, [], rfl, fun h => absurd rfl h, (fun a ha => by cases ha), by simp, fun s hs => by cases hs⟩
  · have : a0 = some a ∧ len = len' ∧ cap = cap' := by simpa [Value.cells] using h0
    obtain ⟨rfl, rfl, rfl⟩ := this
    simp only [if_true] at h4
    refine ⟨some a, cap, ss.take len, by rw [List.length_take]; congr 1; omega, fun _ => ⟨a, rfl⟩, fun a' ha' j s hs => ?_, by rw [List.length_take]; omega, fun s hs => h7 s (List.mem_of_mem_take hs)⟩
    cases ha'
    rw [List.getElem?_take] at hs
    split at hs
    · have hj := (List.getElem?_eq_some_iff.1 hs).1
      rw [h6 j hj, List.getD_eq_getElem?_getD, hs]; rfl
    · cases hs
theorem open_i64s (ht : P.underlying t = some (.slice e)) (he : P.underlying e = some (.int .i64)) (hc : P.cellsOf e = 1) (hval : Value.okWide P w r b0 t v) (hd : DataW.Trod enc P w 0 (fun _ => true) true t v d ps) :
    ∃ (p : Option Addr) (c : Nat) (l : List Int), v = .slice p l.length c ∧ (l ≠ [] → ∃ a, p = some a) ∧ (∀ a, p = some a → ∀ j x, l[j]? = some x → w.cell? (a.add j) = some (.int .i64 x)) ∧ l.length ≤ c ∧ ∀ x ∈ l, (Lit.int .i64 x).wf = true := by
  obtain ⟨a0, len, cap, rfl⟩ := okWide_slice ht hval
  obtain ⟨fuel, hf⟩ := hd
  rcases open_ints ht he hc hf with ⟨h0, -⟩ | ⟨a, len', cap', ss, h0, h1, h2, h3, h4, h5, h6, h7⟩
  · have : a0 = none ∧ len = 0 ∧ cap = 0 := by simpa [Value.cells] using h0
    obtain ⟨rfl, rfl, rfl⟩ := this
    exact ⟨none, 0, [], rfl, fun h => absurd rfl h, (fun a ha => by cases ha), by simp, fun x hx => by cases hx⟩
  · have : a0 = some a ∧ len = len' ∧ cap = cap' := by simpa [Value.cells] using h0
    obtain ⟨rfl, rfl, rfl⟩ := this
    simp only [if_true] at h4
    refine ⟨some a, cap, ss.take len, by rw [List.length_take]; congr 1; omega, fun _ => ⟨a, rfl⟩, fun a' ha' j s hs => ?_, by rw [List.length_take]; omega, fun x hx => h7 x (List.mem_of_mem_take hx)⟩
    cases ha'
    rw [List.getElem?_take] at hs
    split at hs
    · have hj := (List.getElem?_eq_some_iff.1 hs).1
      rw [h6 j hj, List.getD_eq_getElem?_getD, hs]; rfl
    · cases hs
end
end Go.Sh
