import Derived.Test.YtmipjkalfodcpaaGreatDoorM12
section
/-! A law's row: a page; slices of numbers of 64 bits, and of truths. -/
namespace Go.Proofs.YtmipjkalfodcpaaGreatDoor
open Go.ChangeShapes Go.WideShapes Go.ChangeAt Go.RowKit Go.Sh
set_option linter.unusedVariables false
set_option maxRecDepth 20000
theorem wf64 {a : Int} (h : (Lit.int .u64 a).wf = true) : 0 ≤ a ∧ a < 18446744073709551616 := by
  simp [Lit.wf, IntKind.min, IntKind.max, IntKind.bits, IntKind.signed] at h
  omega
theorem arrTwo {cs : Array Value} (h : cs.size = 2) {a b : Value} (h0 : cs.toList[0]? = some a) (h1 : cs.toList[1]? = some b) : cs = #[a, b] := by
  obtain ⟨l⟩ := cs
  match l, h with
  | [x, y], _ =>
    simp at h0 h1
    rw [h0, h1]
section
variable {H : Type} {enc : TypeId × Value → H} {w : World} {v : Value} {d : DataW H} {ps : List MemPlace} {r : Reach} {b0 : Nat}
theorem open_pg (hval : Value.okWide Tryz.prog w r b0 36 v) (hd : DataW.Trod enc Tryz.prog w 0 (fun _ => true) true 36 v d ps) :
    ∃ (n : Int) (s : ByteArray), v = .agg #[.int .u64 n, .string s] ∧ (0 ≤ n ∧ n < 18446744073709551616) ∧ s.size ≤ maxLen := by
  have hC : Tryz.prog.cellsOf 36 = 2 := by kernel_rfl
  obtain ⟨cs, rfl, h2⟩ : ∃ cs : Array Value, v = .agg cs ∧ cs.size = 2 := by
    obtain ⟨fs, ht⟩ : ∃ fs, Tryz.prog.underlying 36 = some (.struct fs) := ⟨Tryz.prog.fieldsOf 36, by kernel_rfl⟩
    simp only [Value.okWide, ht] at hval
    obtain ⟨cs, rfl, h2, _⟩ := hval
    exact ⟨cs, rfl, by rw [h2, hC]⟩
  obtain ⟨fuel, hf⟩ := hd
  have hl : leaves Tryz.prog 8 36 = some [(23, 0, 1), (9, 1, 1)] := by kernel_rfl
  have h := leaves_trod 8 36 _ cs.toList fuel _ hl (by rw [hC, Array.length_toList, h2]) hf
  obtain ⟨n0, e0, k0⟩ := leaf_int (by kernel_rfl) (h (23, 0, 1) (by simp))
  obtain ⟨s1, e1, k1⟩ := leaf_str (by kernel_rfl) (h (9, 1, 1) (by simp))
  exact ⟨n0, s1, by rw [arrTwo h2 e0 e1], wf64 k0, k1⟩
theorem open_u64s {t e : TypeId} {P : Program} (ht : P.underlying t = some (.slice e)) (he : P.underlying e = some (.int .u64)) (hc : P.cellsOf e = 1) (hval : Value.okWide P w r b0 t v) (hd : DataW.Trod enc P w 0 (fun _ => true) true t v d ps) :
    ∃ (p : Option Addr) (c : Nat) (l : List Nat), v = .slice p l.length c ∧ (l ≠ [] → ∃ a, p = some a) ∧ (∀ a, p = some a → ∀ j (x : Nat), l[j]? = some x → w.cell? (a.add j) = some (.int .u64 (x : Int))) ∧ ∀ x ∈ l, x < 2 ^ 64 := by
  obtain ⟨a0, len, cap, rfl⟩ := okWide_slice ht hval
  obtain ⟨fuel, hf⟩ := hd
  rcases open_ints ht he hc hf with ⟨h0, -⟩ | ⟨a, len', cap', ss, h0, h1, h2, h3, h4, h5, h6, h7⟩
  · have : a0 = none ∧ len = 0 ∧ cap = 0 := by simpa [Value.cells] using h0
    obtain ⟨rfl, rfl, rfl⟩ := this
    exact ⟨none, 0, [], rfl, fun h => absurd rfl h, (fun a ha => by cases ha), fun x hx => by cases hx⟩
  · have : a0 = some a ∧ len = len' ∧ cap = cap' := by simpa [Value.cells] using h0
    obtain ⟨rfl, rfl, rfl⟩ := this
    simp only [if_true] at h4
    refine ⟨some a, cap, (ss.take len).map Int.toNat, by rw [List.length_map, List.length_take]; congr 1; omega, fun _ => ⟨a, rfl⟩, fun a' ha' j s hs => ?_, fun x hx => ?_⟩
    · cases ha'
      rw [List.getElem?_map, List.getElem?_take] at hs
      split at hs
      · cases hsj : ss[j]? with
        | none => rw [hsj] at hs; cases hs
        | some y =>
          rw [hsj] at hs
          have hs : y.toNat = s := by simpa using hs
          have hj := (List.getElem?_eq_some_iff.1 hsj).1
          have hy := wf64 (h7 y (List.mem_of_getElem? hsj))
          rw [h6 j hj, List.getD_eq_getElem?_getD, hsj, ← hs]
          show some (Value.int .u64 y) = _
          congr 2
          omega
      · cases hs
    · obtain ⟨y, hy, rfl⟩ := List.mem_map.1 hx
      have := wf64 (h7 y (List.mem_of_mem_take hy))
      have e : (2 : Nat) ^ 64 = 18446744073709551616 := by decide
      omega
theorem open_boolL {t e : TypeId} {P : Program} (ht : P.underlying t = some (.slice e)) (he : P.underlying e = some .bool) (hc : P.cellsOf e = 1) (hl : leaves P 2 e = some [(e, 0, 1)]) (hval : Value.okWide P w r b0 t v) (hd : DataW.Trod enc P w 0 (fun _ => true) true t v d ps) :
    ∃ (p : Option Addr) (c : Nat) (l : List Bool), v = .slice p l.length c ∧ (l ≠ [] → ∃ a, p = some a) ∧ (∀ a, p = some a → ∀ j x, l[j]? = some x → w.cell? (a.add j) = some (.bool x)) := by
  obtain ⟨p, len, c, rfl, h1, h2⟩ := open_rows ht hl hc hval hd
  have key : ∀ j, j < len → ∃ x : Bool, ∀ a, p = some a → w.cell? (a.add j) = some (.bool x) := fun j hj => by
    cases hp : p with
    | none => exact ⟨false, fun a ha => by cases ha⟩
    | some a =>
      obtain ⟨cs, hcl, hcells, hleaf⟩ := h2 a hp j hj
      obtain ⟨b, hb⟩ := leaf_bool he (hleaf (e, 0, 1) (by simp))
      refine ⟨b, fun a' ha' => ?_⟩
      cases ha'
      have := hcells 0 _ hb
      rw [Nat.mul_one] at this
      simpa [Addr.add] using this
  obtain ⟨l, hll, hq⟩ := list_choice len key
  refine ⟨p, c, l, by rw [hll], fun hn => h1 fun h0 => hn (List.eq_nil_of_length_eq_zero (by omega)), fun a ha j x hx => hq j x hx a ha⟩
end
end Go.Proofs.YtmipjkalfodcpaaGreatDoor
end
section
/-! A law's row: acts of pages. -/
namespace Go.Proofs.YtmipjkalfodcpaaGreatDoor
open Go.ChangeShapes Go.WideShapes Go.ChangeAt Go.RowKit Go.Sh
set_option linter.unusedVariables false
set_option maxRecDepth 20000
theorem wf8 {a : Int} (h : (Lit.int .u8 a).wf = true) : 0 ≤ a ∧ a < 256 := by
  simp [Lit.wf, IntKind.min, IntKind.max, IntKind.bits, IntKind.signed] at h
  omega
theorem open_pacts {H : Type} {enc : TypeId × Value → H} {w : World} {v : Value} {d : DataW H} {ps : List MemPlace} {r : Reach} {b0 : Nat} (hval : Value.okWide Tryz.prog w r b0 22 v) (hd : DataW.Trod enc Tryz.prog w 0 (fun _ => true) true 22 v d ps) :
    ∃ (p : Option Addr) (c : Nat) (l : List PA), v = .slice p l.length c ∧ pactsAt w p l := by
  have hlv : leaves Tryz.prog 20 32 = some [(3, 0, 1), (5, 1, 1), (23, 2, 1), (9, 3, 1)] := by kernel_rfl
  obtain ⟨p, len, c, rfl, hp, hat⟩ := open_rows (e := 32) (by kernel_rfl) hlv (C := 4) (by kernel_rfl) hval hd
  have key : ∀ j, j < len → ∃ x : PA, ∀ a, p = some a → PAt w (a.add (j * 4)) x := by
    intro j hj
    cases hpa : p with
    | none => exact ⟨⟨0, 0, 0, []⟩, fun a ha => by cases ha⟩
    | some a =>
      obtain ⟨cs, hl, hc, hx⟩ := hat a hpa j hj
      obtain ⟨k, e0, _⟩ := leaf_int (k := .i64) (by kernel_rfl) (hx (3, 0, 1) (by simp))
      obtain ⟨i, e1, w1⟩ := leaf_int (k := .u8) (by kernel_rfl) (hx (5, 1, 1) (by simp))
      obtain ⟨u, e2, wu⟩ := leaf_int (k := .u64) (by kernel_rfl) (hx (23, 2, 1) (by simp))
      obtain ⟨s, e3, _⟩ := leaf_str (by kernel_rfl) (hx (9, 3, 1) (by simp))
      have hu := wf64 wu
      refine ⟨⟨k, i, u.toNat, s.data.toList⟩, fun a' ha' => ?_⟩
      cases ha'
      refine ⟨fun m v hv => hc m v ?_, wf8 w1, Nat.lt_of_lt_of_eq (show u.toNat < 18446744073709551616 by omega) (by decide)⟩
      have hm : m < 4 := (Array.getElem?_eq_some_iff.1 hv).1
      match m, hm with
      | 0, _ => exact e0.trans hv
      | 1, _ => exact e1.trans hv
      | 2, _ =>
        refine Eq.trans ?_ hv
        rw [e2]
        show some (Value.int .u64 u) = some (Value.int .u64 ((u.toNat : Nat) : Int))
        rw [Int.toNat_of_nonneg hu.1]
      | 3, _ =>
        refine Eq.trans ?_ hv
        rw [e3]
        show some (Value.string s) = some (Value.string (strB s.data.toList))
        rw [strB_list]
  obtain ⟨l, hll, hq⟩ := list_choice len key
  exact ⟨p, c, l, by rw [hll], fun hn => hp fun h0 => hn (List.eq_nil_of_length_eq_zero (by omega)), fun a ha j x hx => hq j x hx a ha⟩
end Go.Proofs.YtmipjkalfodcpaaGreatDoor
end
