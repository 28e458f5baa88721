import Derived.Test.YtdfkifgkccnaiaaGreatDoorRow
/-! A law's row: slices of structs. -/
namespace Go.Sh
open Go.ChangeShapes Go.WideShapes Go.ChangeAt Go.RowKit
set_option linter.unusedVariables false
mutual
/-- the one-cell parts of a type: which type, and where -/
def leaves (P : Program) : Nat → TypeId → Option (List (TypeId × Nat × Nat))
  | 0, _ => none
  | d + 1, t => match P.underlying t with
    | some (.struct fs) => leavesF P d (P.cellsOf t) fs.toList
    | some (.array n e) => if n ≤ 12 && n * P.cellsOf e == P.cellsOf t then (leaves P d e).map fun l => (List.range n).flatMap fun i => l.map fun x => (x.1, i * P.cellsOf e + x.2.1, x.2.2) else none
    | some _ => some [(t, 0, P.cellsOf t)]
    | none => none
def leavesF (P : Program) : Nat → Nat → List Field → Option (List (TypeId × Nat × Nat))
  | _, _, [] => some []
  | 0, _, _ => none
  | d + 1, C, f :: fs => if f.offset + P.cellsOf f.type ≤ C then match leaves P d f.type, leavesF P d C fs with
    | some a, some b => some (a.map (fun x => (x.1, f.offset + x.2.1, x.2.2)) ++ b)
    | _, _ => none else none
end
section
variable {P : Program} {H : Type} {enc : TypeId × Value → H} {w : World} {sp : Nat → Bool}
def LeafAt (enc : TypeId × Value → H) (P : Program) (w : World) (sp : Nat → Bool) (cs : List Value) (x : TypeId × Nat × Nat) : Prop := x.2.1 + x.2.2 ≤ cs.length ∧ ∃ n y, DataW.trod enc P w 0 sp true n x.1 ((cs.drop x.2.1).take x.2.2) = some y
theorem LeafAt.sub {cs : List Value} {o n : Nat} {x : TypeId × Nat × Nat} (hn : o + n ≤ cs.length) (h : LeafAt enc P w sp ((cs.drop o).take n) x) : LeafAt enc P w sp cs (x.1, o + x.2.1, x.2.2) := by
  obtain ⟨h1, m, y, h2⟩ := h
  rw [List.length_take, List.length_drop] at h1
  refine ⟨?_, m, y, ?_⟩
  · show o + x.2.1 + x.2.2 ≤ _; omega
  rw [List.drop_take, List.drop_drop, List.take_take] at h2
  show DataW.trod enc P w 0 sp true m x.1 ((cs.drop (o + x.2.1)).take x.2.2) = some y
  rwa [show min x.2.2 (n - x.2.1) = x.2.2 by omega] at h2
mutual
theorem leaves_trod : ∀ (d : Nat) (t : TypeId) (l : List (TypeId × Nat × Nat)) (cs : List Value) (n : Nat) (y : DataW H × List MemPlace), leaves P d t = some l → cs.length = P.cellsOf t → DataW.trod enc P w 0 sp true n t cs = some y → ∀ x ∈ l, LeafAt enc P w sp cs x
  | 0, _, _, _, _, _, h, _, _ => by cases h
  | d + 1, t, l, cs, n, y, h, hl, hd => by
    unfold leaves at h
    split at h
    · rename_i fs hu
      obtain ⟨xs, m, _, _, _, hlen, hf⟩ := DataW.trod_struct hu hd
      exact leavesF_trod d (P.cellsOf t) fs.toList l cs m h hl fun f hm => by
        obtain ⟨i, hi⟩ := List.mem_iff_getElem?.1 hm
        have h1 := hf i f (by simpa using hi)
        have : i < xs.length := by rw [hlen]; have := (List.getElem?_eq_some_iff.1 hi).1; simpa using this
        rw [List.getElem?_eq_getElem this] at h1
        exact ⟨_, h1⟩
    · rename_i k e hu
      split at h
      · rename_i hc
        simp only [Bool.and_eq_true, decide_eq_true_eq, beq_iff_eq] at hc
        simp only [Option.map_eq_some_iff] at h
        obtain ⟨le, he, rfl⟩ := h
        obtain ⟨xs, m, _, _, _, hlen, hf⟩ := DataW.trod_array hu hd
        intro x hx
        simp only [List.mem_flatMap, List.mem_range, List.mem_map] at hx
        obtain ⟨i, hi, x0, hx0, rfl⟩ := hx
        have h1 := hf i hi
        rw [List.getElem?_eq_getElem (by omega)] at h1
        have hb : i * P.cellsOf e + P.cellsOf e ≤ cs.length := by
          rw [hl, ← hc.2]
          have : (i + 1) * P.cellsOf e ≤ k * P.cellsOf e := Nat.mul_le_mul_right _ hi
          rw [Nat.add_mul, Nat.one_mul] at this
          exact this
        exact LeafAt.sub hb (leaves_trod d e le _ m _ he (by rw [List.length_take, List.length_drop]; omega) h1 x0 hx0)
      · cases h
    · rename_i hu1 hu2 hu3
      cases h
      intro x hx
      obtain rfl := List.mem_singleton.1 hx
      refine ⟨by simp [hl], n, y, ?_⟩
      rw [List.drop_zero, ← hl, List.take_length]
      exact hd
    · cases h
theorem leavesF_trod : ∀ (d C : Nat) (fs : List Field) (l : List (TypeId × Nat × Nat)) (cs : List Value) (n : Nat), leavesF P d C fs = some l → cs.length = C → (∀ f ∈ fs, ∃ y, DataW.trod enc P w 0 sp true n f.type ((cs.drop f.offset).take (P.cellsOf f.type)) = some y) → ∀ x ∈ l, LeafAt enc P w sp cs x
  | _, _, [], l, _, _, h, _, _ => by
    cases l with
    | nil => intro x hx; cases hx
    | cons a l => unfold leavesF at h; cases h
  | 0, _, _ :: _, _, _, _, h, _, _ => by cases h
  | d + 1, C, f :: fs, l, cs, n, h, hl, hf => by
    unfold leavesF at h
    split at h
    · rename_i hc
      split at h
      · rename_i a b ha hb
        cases h
        intro x hx
        rcases List.mem_append.1 hx with hx | hx
        · obtain ⟨x0, hx0, rfl⟩ := List.mem_map.1 hx
          obtain ⟨y, hy⟩ := hf f List.mem_cons_self
          exact LeafAt.sub (by omega) (leaves_trod d f.type a _ n y ha (by rw [List.length_take, List.length_drop]; omega) hy x0 hx0)
        · exact leavesF_trod d C fs b cs n hb hl (fun g hg => hf g (List.mem_cons_of_mem _ hg)) x hx
      · cases h
    · cases h
end
theorem leaf_one {cs : List Value} {t : TypeId} {i : Nat} (h : LeafAt enc P w sp cs (t, i, 1)) : ∃ v n y, cs[i]? = some v ∧ DataW.trod enc P w 0 sp true n t [v] = some y := by
  obtain ⟨h1, n, y, h2⟩ := h
  have hi : i < cs.length := by simp only at h1; omega
  refine ⟨cs[i], n, y, List.getElem?_eq_getElem hi, ?_⟩
  have : (cs.drop i).take 1 = [cs[i]] := by
    rw [List.drop_eq_getElem_cons hi]; rfl
  rwa [this] at h2
theorem leaf_int {cs : List Value} {t : TypeId} {i : Nat} {k : IntKind} (ht : P.underlying t = some (.int k)) (h : LeafAt enc P w sp cs (t, i, 1)) : ∃ n : Int, cs[i]? = some (.int k n) ∧ (Lit.int k n).wf = true := by
  obtain ⟨v, n, y, h1, h2⟩ := leaf_one h
  obtain ⟨m, h3, _, h4⟩ := DataW.trod_int ht h2
  obtain rfl : v = .int k m := by simpa using h3
  exact ⟨m, h1, h4⟩
theorem leaf_bool {cs : List Value} {t : TypeId} {i : Nat} (ht : P.underlying t = some .bool) (h : LeafAt enc P w sp cs (t, i, 1)) : ∃ b : Bool, cs[i]? = some (.bool b) := by
  obtain ⟨v, n, y, h1, h2⟩ := leaf_one h
  obtain ⟨m, h3, _⟩ := DataW.trod_bool ht h2
  obtain rfl : v = .bool m := by simpa using h3
  exact ⟨m, h1⟩
theorem leaf_str {cs : List Value} {t : TypeId} {i : Nat} (ht : P.underlying t = some .string) (h : LeafAt enc P w sp cs (t, i, 1)) : ∃ s : ByteArray, cs[i]? = some (.string s) ∧ s.size ≤ maxLen := by
  obtain ⟨v, n, y, h1, h2⟩ := leaf_one h
  obtain ⟨m, h3, _, h4⟩ := DataW.trod_string ht h2
  obtain rfl : v = .string m := by simpa using h3
  exact ⟨m, h1, h4⟩
/-- bytes that a slice's value shows -/
theorem trod_u8s {t e : TypeId} {v : Value} {n : Nat} {y : DataW H × List MemPlace} (ht : P.underlying t = some (.slice e)) (he : P.underlying e = some (.int .u8)) (hc : P.cellsOf e = 1) (hf : DataW.trod enc P w 0 (fun _ => true) true n t [v] = some y) :
    ∃ (p : Option Addr) (c : Nat) (l : List UInt8), v = .slice p l.length c ∧ (l ≠ [] → ∃ a, p = some a) ∧ (∀ a, p = some a → ∀ j (s : UInt8), l[j]? = some s → w.cell? (a.add j) = some (.int .u8 s.toNat)) := by
  rcases open_ints ht he hc hf with ⟨h0, _⟩ | ⟨a, len, cap, ss, h0, h1, h2, h3, h4, h5, h6, h7⟩
  · obtain rfl : v = .slice none 0 0 := by simpa using h0
    exact ⟨none, 0, [], rfl, fun h => absurd rfl h, (fun a ha => by cases ha)⟩
  · obtain rfl : v = .slice (some a) len cap := by simpa using h0
    simp only [if_true] at h4
    refine ⟨some a, cap, (ss.take len).map fun n => UInt8.ofNat n.toNat, by rw [List.length_map, List.length_take]; congr 1; omega, fun _ => ⟨a, rfl⟩, fun a' ha' j s hs => ?_⟩
    cases ha'
    rw [List.getElem?_map, List.getElem?_take] at hs
    split at hs
    · cases hz : ss[j]? with
      | none => rw [hz] at hs; cases hs
      | some z =>
        rw [hz] at hs
        simp only [Option.map_some, Option.some.injEq] at hs
        have hj := (List.getElem?_eq_some_iff.1 hz).1
        have hw := u8_of (h7 z (List.mem_of_getElem? hz))
        rw [h6 j hj, List.getD_eq_getElem?_getD, hz]
        have : ((UInt8.ofNat z.toNat).toNat : Int) = z := by simp; omega
        rw [← hs, this]; rfl
    · cases hs
theorem leaf_u8s {cs : List Value} {t e : TypeId} {i : Nat} (ht : P.underlying t = some (.slice e)) (he : P.underlying e = some (.int .u8)) (hc : P.cellsOf e = 1) (h : LeafAt enc P w (fun _ => true) cs (t, i, 1)) :
    ∃ (p : Option Addr) (c : Nat) (l : List UInt8), cs[i]? = some (.slice p l.length c) ∧ (l ≠ [] → ∃ a, p = some a) ∧ (∀ a, p = some a → ∀ j (s : UInt8), l[j]? = some s → w.cell? (a.add j) = some (.int .u8 s.toNat)) := by
  obtain ⟨v, n, y, h1, h2⟩ := leaf_one h
  obtain ⟨p, c, l, rfl, h3⟩ := trod_u8s ht he hc h2
  exact ⟨p, c, l, h1, h3⟩
theorem cells_get {w : World} {a : Addr} {n : Nat} {cs : List Value} (h : w.cells? 0 a n = some cs) : cs.length = n ∧ ∀ k v, cs[k]? = some v → w.cell? (a.add k) = some v := by
  unfold World.cells? at h
  split at h
  · have hl : cs.length = n := by simpa using mapM_some_length h
    refine ⟨hl, fun k v hv => ?_⟩
    have hk : k < n := by have := (List.getElem?_eq_some_iff.1 hv).1; omega
    have h1 := mapM_some_get h k
    rw [hv] at h1
    simpa [hk] using h1
  · cases h
/-- a slice of structs: the cells of each one, and its parts -/
theorem open_rows {t e : TypeId} {v : Value} {d : DataW H} {ps : List MemPlace} {r : Reach} {b0 : Nat} {l : List (TypeId × Nat × Nat)} {dep C : Nat} (ht : P.underlying t = some (.slice e)) (hl : leaves P dep e = some l) (hC : P.cellsOf e = C) (hval : Value.okWide P w r b0 t v) (hd : DataW.Trod enc P w 0 (fun _ => true) true t v d ps) :
    ∃ (p : Option Addr) (len c : Nat), v = .slice p len c ∧ (len ≠ 0 → ∃ a, p = some a) ∧ ∀ a, p = some a → ∀ j, j < len → ∃ cs : List Value, cs.length = C ∧ (∀ k u, cs[k]? = some u → w.cell? ((a.add (j * C)).add k) = some u) ∧ ∀ x ∈ l, LeafAt enc P w (fun _ => true) cs x := by
  subst hC
  obtain ⟨a0, len, cap, rfl⟩ := okWide_slice ht hval
  obtain ⟨fuel, hf⟩ := hd
  rcases DataW.trod_slice ht hf with ⟨h0, _⟩ | ⟨a, len', cap', elems, rest, n, _, h0, _, hb, hle, hm, hlen, hel, _⟩
  · have : a0 = none ∧ len = 0 ∧ cap = 0 := by simpa [Value.cells] using h0
    obtain ⟨rfl, rfl, rfl⟩ := this
    exact ⟨none, 0, 0, rfl, fun h => absurd rfl h, (fun a ha => by cases ha)⟩
  · have : a0 = some a ∧ len = len' ∧ cap = cap' := by simpa [Value.cells] using h0
    obtain ⟨rfl, rfl, rfl⟩ := this
    refine ⟨some a, len, cap, rfl, fun _ => ⟨a, rfl⟩, fun a' ha' j hj => ?_⟩
    cases ha'
    have h1 := hel j hj
    rw [List.getElem?_eq_getElem (by omega)] at h1
    simp only [Option.bind_eq_some_iff] at h1
    obtain ⟨cs, hcs, ht2⟩ := h1
    obtain ⟨h2, h3⟩ := cells_get hcs
    exact ⟨cs, h2, h3, leaves_trod dep e l cs n _ hl h2 ht2⟩
theorem list_choice {α : Type} {Q : Nat → α → Prop} : ∀ (n : Nat), (∀ j, j < n → ∃ x, Q j x) → ∃ l : List α, l.length = n ∧ ∀ j x, l[j]? = some x → Q j x
  | 0, _ => ⟨[], rfl, fun j x h => by simp at h⟩
  | n + 1, h => by
    obtain ⟨l, hl, hq⟩ := list_choice n fun j hj => h j (by omega)
    obtain ⟨x, hx⟩ := h n (by omega)
    refine ⟨l ++ [x], by simp [hl], fun j y hy => ?_⟩
    rcases Nat.lt_or_ge j l.length with hj | hj
    · rw [List.getElem?_append_left hj] at hy; exact hq j y hy
    · rw [List.getElem?_append_right hj] at hy
      have : j = n := by have := (List.getElem?_eq_some_iff.1 hy).1; simp at this; omega
      subst this
      rw [hl, Nat.sub_self] at hy
      obtain rfl : x = y := by simpa using hy
      exact hx
end
end Go.Sh
