import Derived.Test.YtdppllkjibfjcaaMem3
/-! Memory in parts, on: great things stored into rows. -/
namespace Go.Sh
open Go.RowKit
def putL (xs : List Value) (o : Nat) : List Value → List Value
  | [] => xs
  | v :: l => putL (xs.set o v) (o + 1) l
theorem putL_eq : ∀ (l xs : List Value) (o : Nat), o + l.length ≤ xs.length → putL xs o l = xs.take o ++ l ++ xs.drop (o + l.length)
  | [], xs, o, _ => by simp [putL]
  | v :: l, xs, o, h => by
    simp only [List.length_cons] at h
    rw [putL, putL_eq l (xs.set o v) (o + 1) (by simp; omega)]
    have h1 : (xs.set o v).take (o + 1) = xs.take o ++ [v] := by
      rw [List.take_add_one, List.take_set_of_le (Nat.le_refl _), List.getElem?_set_self (by omega)]; rfl
    have h2 : (xs.set o v).drop (o + 1 + l.length) = xs.drop (o + (l.length + 1)) := by
      rw [List.drop_set_of_lt (by omega), show o + 1 + l.length = o + (l.length + 1) by omega]
    rw [h1, h2]
    simp
theorem StRowL.t {F : List Nat} {w0 : World} {Δ : List A} {e : TypeId} {size n cap b o : Nat} {K : World → Prop} : ∀ (l : List Value) (i : Nat) (xs : List Value) (w : World), T F w0 w (rowP e size (some b) n cap xs :: Δ) → (∀ v ∈ l, scalar v = true) → o + i + l.length ≤ xs.length →
    (∀ w', T F w0 w' (rowP e size (some b) n cap (putL xs (o + i) l) :: Δ) → K w') → StL ⟨b, o, none⟩ K l i w
  | [], i, xs, w, hT, _, _, h => h w hT
  | v :: l, i, xs, w, hT, hv, hl, h => by
    simp only [List.length_cons] at hl
    rw [StL, addr_add]
    refine StRow.t hT .head (by omega) (hv v List.mem_cons_self) fun w' hT' => ?_
    refine StRowL.t l (i + 1) _ w' hT' (fun u hu => hv u (List.mem_cons_of_mem _ hu)) (by simp; omega) fun w2 hT2 => h w2 ?_
    simpa only [putL, Nat.add_assoc] using hT2
theorem storeRow_t {P : Program} {t0 : TypeId} {i : TypeInfo} {F : List Nat} {w0 w : World} {Γ Δ : List A} {e : TypeId} {size n cap b o : Nat} {xs : List Value} {cs : Array Value} (hT : T F w0 w Γ) (hk : Pick (rowP e size (some b) n cap xs) Γ Δ) (hi : P.info? t0 = some i) (hs : cs.size = P.cellsOf t0)
    (hv : ∀ v ∈ cs.toList, scalar v = true) (hl : o + cs.size ≤ xs.length) : ∃ w', (Instr.storeAt t0 (.pointer (some ⟨b, o, none⟩)) (.agg cs)).run P w = .ok () w' ∧ T F w0 w' (rowP e size (some b) n cap (xs.take o ++ cs.toList ++ xs.drop (o + cs.size)) :: Δ) := by
  have h1 : StL ⟨b, o, none⟩ (fun w' => T F w0 w' (rowP e size (some b) n cap (putL xs o cs.toList) :: Δ)) cs.toList 0 w := StRowL.t cs.toList 0 xs w (hT.pick hk) hv (by simpa using hl) fun w' hT' => hT'
  obtain ⟨w', hr, hT'⟩ := StL_run (P := P) h1
  rw [putL_eq _ _ _ (by simpa using hl), Array.length_toList] at hT'
  exact ⟨w', storeAgg_run hi hs hr, hT'⟩
end Go.Sh
