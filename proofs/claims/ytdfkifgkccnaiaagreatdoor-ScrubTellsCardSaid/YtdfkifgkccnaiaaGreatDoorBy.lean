import Derived.Test.YtdfkifgkccnaiaaGreatDoorMem7
import Derived.Laws.Strings
import Derived.Laws.BytesArg
import Derived.RowKit3
import Derived.Test.YtdfkifgkccnaiaaGreatDoorBase
import Derived.Laws.IdiomStrings
/-! Texts and rows of bytes; small steps that many texts lean on. -/
namespace Go.Proofs.YtdfkifgkccnaiaaGreatDoor
open Go.Sh Go.RowKit
set_option linter.unusedVariables false
set_option maxRecDepth 20000
set_option maxHeartbeats 1000000
theorem no {c : Bool} {A B : Prop} (h : c = false) (hb : B) : (c = true → A) ∧ (c = false → B) := ⟨fun e => (by rw [h] at e; cases e), fun _ => hb⟩
theorem yes {c : Bool} {A B : Prop} (h : c = true) (ha : A) : (c = true → A) ∧ (c = false → B) := ⟨fun _ => ha, fun e => (by rw [h] at e; cases e)⟩
theorem same_str (s : ByteArray) : (s.toList == s.toList) = true := by simp
theorem bytes_inj {s t : ByteArray} (h : s.toList = t.toList) : s = t := by
  rw [ByteArray.toList_eq, ByteArray.toList_eq] at h
  cases s; cases t
  simpa using h
theorem slice_to {P : Program} {t : TypeId} {s : ByteArray} {k : IntKind} {hi : Int} {w : World} (ht : P.underlying t = some .string) (h0 : 0 ≤ hi) (h2 : hi ≤ (s.size : Int)) :
    (Instr.sliceAt t (.string s) none (some (.int k hi)) none).run P w = .ok (.string (s.extract 0 hi.toNat)) w := by
  have h3 : 0 ≤ hi ∧ hi ≤ (s.size : Int) := ⟨h0, h2⟩
  simp [Instr.sliceAt, Instr.slice, Instr.sliceBounds, Instr.sliceBound, asIntOf, underlying_run ht, h3]
theorem slice_from {P : Program} {t : TypeId} {s : ByteArray} {k : IntKind} {lo : Int} {w : World} (ht : P.underlying t = some .string) (h0 : 0 ≤ lo) (h2 : lo ≤ (s.size : Int)) :
    (Instr.sliceAt t (.string s) (some (.int k lo)) none none).run P w = .ok (.string (s.extract lo.toNat s.size)) w := by
  have h3 : 0 ≤ lo ∧ lo ≤ (s.size : Int) := ⟨h0, h2⟩
  simp [Instr.sliceAt, Instr.slice, Instr.sliceBounds, Instr.sliceBound, asIntOf, underlying_run ht, h3]
theorem wrap8 (n : Int) : IntKind.u8.wrap n = n % 256 := by simp [IntKind.wrap, IntKind.bits, IntKind.signed]
theorem index_str {P : Program} {t : TypeId} {s : ByteArray} {k : IntKind} {n : Int} {w : World} (ht : P.underlying t = some .string) (h0 : 0 ≤ n) (h1 : n < (s.size : Int)) : (Instr.index t (.string s) (.int k n)).run P w = .ok (.int .u8 ((s.data.toList.getD n.toNat 0).toNat : Int)) w := by
  have hn : n.toNat < s.size := by omega
  have hn2 : n.toNat < s.data.toList.length := by rw [Array.length_toList]; exact hn
  simp [Instr.index, asIntOf, underlying_run ht, h0, h1]
  rfl
/-- bytes, as cells -/
def bvals (l : List UInt8) : List Value := l.map fun b => .int .u8 b.toNat
theorem bvals_len (l : List UInt8) : (bvals l).length = l.length := List.length_map ..
theorem bvals_get (l : List UInt8) (i : Nat) : (bvals l)[i]? = l[i]?.map fun b => .int .u8 b.toNat := by simp [bvals]
/-- a text of bytes -/
abbrev strB (l : List UInt8) : ByteArray := ⟨l.toArray⟩
theorem strB_size (l : List UInt8) : (strB l).size = l.length := by show l.toArray.size = _; simp
theorem strB_list (s : ByteArray) : strB s.data.toList = s := by cases s; rfl
theorem strB_append (a b : List UInt8) : strB a ++ strB b = strB (a ++ b) := by
  apply ByteArray.ext
  rw [ByteArray.data_append]
  simp
theorem strB_inj {a b : List UInt8} (h : strB a = strB b) : a = b := by
  have := congrArg ByteArray.data h
  simpa using this
theorem strB_toList (l : List UInt8) : (strB l).toList = l := by rw [ByteArray.toList_eq]
theorem strB_extract (l : List UInt8) (i j : Nat) : (strB l).extract i j = strB ((l.drop i).take (j - i)) := by
  apply ByteArray.ext
  rw [ByteArray.data_extract]
  apply Array.toList_inj.1
  simp [List.take_drop]
/-- a row of bytes, as a text -/
theorem row_string {F : List Nat} {w0 w : World} {Γ : List A} {g : Option Nat} {n cap : Nat} {l : List UInt8} (hT : T F w0 w Γ) (hm : rowP 5 1 g n cap (bvals l) ∈ Γ) : (convert 33 9 (.slice (ptr g) n cap)).run Tryz.prog w = .ok (.string (strB l)) w := by
  have hs := hT.says hm
  have hl : l.length = n := by have := rowP.len hs; rw [bvals_len] at this; omega
  cases g with
  | none =>
    have h1 : cap = 0 := hs.2.2.2
    have h2 : n ≤ cap := hs.2.1
    obtain rfl : n = 0 := by omega
    subst h1
    have : l = [] := List.eq_nil_of_length_eq_zero (by omega)
    subst this
    exact run_convert_bytes_nil w 33 5 (by kernel_rfl) (by kernel_rfl) 0 0 _ (by kernel_rfl)
  | some b =>
    have h1 := run_convert_bytes_back (P := Tryz.prog) w 33 9 5 ⟨b, 0, none⟩ cap l (by kernel_rfl) (by kernel_rfl) (by kernel_rfl) (fun j hj => by
      rw [addr_add, Nat.zero_add]
      rw [rowP.cell hs (k := j) (v := .int .u8 (l[j]).toNat) (by rw [bvals_get, List.getElem?_eq_getElem hj]; rfl)])
    rw [hl] at h1
    exact h1
theorem blk_row {F : List Nat} {w0 w : World} {Γ : List A} {k : Nat} {e : TypeId} {c : Array Value} {xs : List Value} {n : Nat} (hT : T F w0 w (blk k c e :: Γ)) (hc : c.toList = xs) (hn : c.size = n) (hm : n ≤ 1000000000) : T F w0 w (rowP e 1 (some k) n n xs :: Γ) :=
  hT.weak rfl fun g hg => ⟨by rw [← hc, Array.length_toList, hn, Nat.mul_one], Nat.le_refl _, by simp only [maxLen]; omega, c, hg, by rw [hn, Nat.mul_one], by rw [hc, Nat.mul_one, ← hn, ← Array.length_toList, hc, List.take_length]⟩
theorem byteCells_b (l : List UInt8) : Go.Lib.byteCells l = bvals l := rfl
theorem bvals_zeros (n : Nat) : List.replicate n (Value.int .u8 0) = bvals (List.replicate n 0) := by simp [bvals]
theorem bvals_drop (l : List UInt8) (n : Nat) : (bvals l).drop n = bvals (l.drop n) := by simp [bvals]
theorem bvals_append (a b : List UInt8) : bvals a ++ bvals b = bvals (a ++ b) := by simp [bvals]
theorem bvals_one (l : List UInt8) : ∀ u ∈ bvals l, u.oneCell' = true := by
  intro v hv
  simp only [bvals, List.mem_map] at hv
  obtain ⟨b, _, rfl⟩ := hv
  rfl
theorem T.cell1 {F : List Nat} {w0 w : World} {Γ : List A} {e : TypeId} {g : Option Nat} {n cap i : Nat} {xs : List Value} {v : Value} (h : T F w0 w Γ) (hm : rowP e 1 g n cap xs ∈ Γ) (hv : xs[i]? = some v) :
    ∃ b, g = some b ∧ i < n ∧ w.cell? (Addr.add ⟨b, 0, none⟩ (i * 1)) = some v := by
  have hs := h.says hm
  have hl := rowP.len hs
  have hi := (List.getElem?_eq_some_iff.1 hv).1
  obtain ⟨b, rfl⟩ := rowP.pos hs (by omega)
  refine ⟨b, rfl, by omega, ?_⟩
  rw [addr_add, Nat.zero_add, Nat.mul_one]
  exact rowP.cell hs hv
/-- a filler is cut off in the middle -/
theorem T.dropAt {F : List Nat} {w0 w : World} {Γ Δ : List A} {a : A} (h : T F w0 w Γ) (hk : Pick a Γ Δ) : T F w0 w Δ := (h.pick hk).drop
theorem T.row1 {F : List Nat} {w0 w : World} {Γ : List A} {e : TypeId} {g : Option Nat} {n cap i : Nat} {xs : List Value} {v : Value} (h : T F w0 w Γ) (hm : rowP e 1 g n cap xs ∈ Γ) (hv : xs[i]? = some v) :
    ∃ b, g = some b ∧ w.cell? (Addr.add ⟨b, 0, none⟩ (i * 1)) = some v := by
  have hs := h.says hm
  have hl := rowP.len hs
  have hi := (List.getElem?_eq_some_iff.1 hv).1
  obtain ⟨b, rfl⟩ := rowP.pos hs (by omega)
  refine ⟨b, rfl, ?_⟩
  rw [addr_add, Nat.zero_add, Nat.mul_one]
  exact rowP.cell hs hv
theorem StRow1.t {F : List Nat} {w0 w : World} {Γ Δ : List A} {e : TypeId} {n cap b k : Nat} {xs : List Value} {v : Value} {K : World → Prop} (hT : T F w0 w Γ) (hk : Pick (rowP e 1 (some b) n cap xs) Γ Δ) (hkl : k < xs.length) (hv : scalar v = true)
    (h : ∀ w', T F w0 w' (rowP e 1 (some b) n cap (xs.set k v) :: Δ) → K w') : St (Addr.add ⟨b, 0, none⟩ (k * 1)) v w K := by
  rw [addr_add, Nat.zero_add, Nat.mul_one]
  exact StRow.t hT hk hkl hv h
theorem push1_t {P : Program} {F : List Nat} {w0 w : World} {Γ Δ : List A} {t e : TypeId} {i : TypeInfo} {z v : Value} (ht : P.underlying t = some (.slice e)) (hi : P.info? e = some i) (hz : i.zero = some z) (hsize : i.size = 1) (hzs : z.cells.size = 1) (hby : decide (i.bytes ≤ 1000000) = true)
    {g : Option Nat} {n cap : Nat} {xs : List Value} (hT : T F w0 w Γ) (hk : Pick (rowP e 1 g n cap xs) Γ Δ) (hv : v.oneCell' = true) (hn : n ≤ 1000000) {K : Option Addr → Nat → Nat → World → Prop} (hK : ∀ g' cap' w', T F w0 w' (rowP e 1 g' (n + 1) cap' (xs ++ [v]) :: Δ) → K (ptr g') (n + 1) cap' w') :
    Alloc #[v] e w fun k w1 => ∃ (p : Option Addr) (l c : Nat), ∃ w2, (builtin .append #[t, t] t #[false, false] #[.slice (ptr g) n cap, .slice (some ⟨k, 0, none⟩) 1 1]).run P w1 = .ok (.value (.slice p l c)) w2 ∧ K p l c w2 := by
  refine Alloc.t hT fun k w1 hT1 => ?_
  have hby' : i.bytes ≤ 1000000 := of_decide_eq_true hby
  have hmul : (n + 1) * i.bytes ≤ 1000001 * 1000000 := Nat.mul_le_mul (by omega) hby'
  obtain ⟨g', cap', w', hr, hT'⟩ := append_t (ty := t) #[false, false] ht hi hz hsize hzs hT1 (.tail hk) (a := ⟨k, 0, none⟩) (m := 1) (c := 1) (news := [v]) rfl (fun j u hu => by
      rw [addr_add, Nat.zero_add]
      exact hT1.ld (by repeat (first | exact List.Mem.head _ | refine List.Mem.tail _ ?_)) (by simpa using hu)) (fun u hu => by obtain rfl := List.mem_singleton.1 hu; exact hv) (by simp only [maxLen]; omega) (by omega)
  exact ⟨_, _, _, w', hr, hK g' cap' w' (T.drop (hT'.swap (.swap _ _ _)))⟩
abbrev noB : ByteArray := ByteArray.mk #[]
theorem cell_ext {w w' : World} (h : Ext w w') {a : Addr} {v : Value} (hc : w.cell? a = some v) : w'.cell? a = some v := by
  have hb : a.block < w.heap.size := by
    unfold World.cell? at hc
    cases hh : w.heap[a.block]? with
    | none => rw [hh] at hc; split at hc <;> simp_all
    | some o => exact lt_of_heap hh
  unfold World.cell? at hc ⊢
  rw [h.heap _ hb]
  exact hc
/-- texts that lie in a row -/
def strsAt (w : World) (p : Option Addr) (l : List ByteArray) : Prop := (l ≠ [] → ∃ a, p = some a) ∧ ∀ a, p = some a → ∀ j s, l[j]? = some s → w.cell? (a.add j) = some (.string s)
theorem strsAt.ext {w w' : World} {p : Option Addr} {l : List ByteArray} (h : strsAt w p l) (hx : Ext w w') : strsAt w' p l := ⟨h.1, fun a ha j s hs => cell_ext hx (h.2 a ha j s hs)⟩
theorem strsAt.get {w : World} {p : Option Addr} {l : List ByteArray} (h : strsAt w p l) {n : Int} (h0 : 0 ≤ n) (h1 : n < (l.length : Int)) : ∃ a, p = some a ∧ w.cell? (a.add (n.toNat * 1)) = some (.string (l.getD n.toNat noB)) := by
  obtain ⟨a, ha⟩ := h.1 (by intro e; subst e; simp at h1; omega)
  refine ⟨a, ha, ?_⟩
  rw [Nat.mul_one]
  have hlt : n.toNat < l.length := by omega
  have := h.2 a ha n.toNat l[n.toNat] (List.getElem?_eq_getElem hlt)
  rw [this, List.getD_eq_getElem?_getD, List.getElem?_eq_getElem hlt]; rfl
theorem nott {b : Bool} (h : (!b) = true) : b = false := by cases b; rfl; cases h
theorem notf {b : Bool} (h : (!b) = false) : b = true := by cases b; cases h; rfl
theorem T.dropAll {F : List Nat} {w0 w : World} {G Γ : List A} (h : T F w0 w (G ++ Γ)) : T F w0 w Γ := by
  induction G with
  | nil => exact h
  | cons a G ih => exact ih (T.drop h)
/-- bytes that lie in a row -/
def bytesAt (w : World) (p : Option Addr) (l : List UInt8) : Prop := (l ≠ [] → ∃ a, p = some a) ∧ ∀ a, p = some a → ∀ j (b : UInt8), l[j]? = some b → w.cell? (a.add j) = some (.int .u8 b.toNat)
theorem bytesAt.ext {w w' : World} {p : Option Addr} {l : List UInt8} (h : bytesAt w p l) (hx : Ext w w') : bytesAt w' p l := ⟨h.1, fun a ha j s hs => cell_ext hx (h.2 a ha j s hs)⟩
end Go.Proofs.YtdfkifgkccnaiaaGreatDoor
