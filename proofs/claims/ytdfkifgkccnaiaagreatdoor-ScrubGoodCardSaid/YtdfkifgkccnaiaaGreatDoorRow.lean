import Derived.Test.YtdfkifgkccnaiaaGreatDoorPost
import Derived.Test.YtdfkifgkccnaiaaGreatDoorProg
import Derived.ReadAgain
import Derived.ChangeMaps5
import Derived.SliceStrings
import Derived.ChangeSlices
import Derived.WalkKit
import Derived.ProofKit
import Derived.OpenShut
import Derived.Lib.SmallJoins
/-! A law's row: what its arguments tell, and that they read as they did. -/
namespace Go.Sh
open Go.ChangeShapes Go.WideShapes Go.ChangeAt Go.RowKit
set_option linter.unusedVariables false
theorem Ext.same {W W' : World} (h : Ext W W') {p : MemPlace} (hp : p.block < W.heap.size) : W.sameAt W' p := by
  cases p with
  | cell b o => show W'.cell? ⟨b, o, none⟩ = W.cell? ⟨b, o, none⟩; unfold World.cell?; rw [h.heap b hp]
  | map b => show W'.heap[b]? = W.heap[b]?; exact h.heap b hp
theorem trodAll_carry {H : Type} {enc : TypeId × Value → H} {P : Program} {W W' : World} {sp : Nat → Bool} : ∀ {ts : List TypeId} {vs : List Value} {ds : List (DataW H)} {ps : List MemPlace}, DataW.TrodAll enc P W 0 sp true ts vs ds ps → (∀ p ∈ ps, W.sameAt W' p) → DataW.TrodAll enc P W' 0 sp true ts vs ds ps
  | [], [], [], _, h, _ => h
  | _ :: _, _ :: _, _ :: _, _, ⟨p, q, ⟨n, h1⟩, h2, e⟩, hs => ⟨p, q, ⟨n, DataW.trod_carry n _ _ _ h1 fun x hx => hs x (by rw [e]; exact List.mem_append_left _ hx)⟩, trodAll_carry h2 fun x hx => hs x (by rw [e]; exact List.mem_append_right _ hx), e⟩
theorem law_post {P : Program} {H : Type} {enc : TypeId × Value → H} {f : Func} {s : ChangeSpec} {apart fresh handsOn again : Bool} {W W' : World} {args : Array Value} {ds gs : List (DataW H)} {before : List MemPlace} {tb : TypeId}
    (hl : laidOutB P = true) (hm : mapsRowed P = true) (hz : ((List.range P.types.size).all fun t => match P.underlying t with | some (.slice e) => decide (0 < P.cellsOf e) | _ => true) = true) (htp : (f.params.toList.all fun t => decide (t < P.types.size)) = true)
    (hW : DataW.Whole enc P f.params.toList s.vars apart W args.toList ds gs before) (hv : s.vars = []) (hargs : (s.fn H (ds ++ gs)).args = ds) (hres : (s.fn H (ds ++ gs)).results = [.lit (.bool true)]) (hvars : (s.fn H (ds ++ gs)).vars = [])
    (hrt : f.resultTypes = #[tb]) (htb : P.underlying tb = some .bool) (hx : Ext W W') : s.post enc P f apart fresh handsOn again W args (.bool true) W' := by
  have hlt := hW.lt
  have hW' := hW
  obtain ⟨p, q, hA, hV, rfl, hfz, hnd⟩ := hW
  rw [hv] at hV
  obtain ⟨rfl, rfl⟩ := trodVars_none hV
  rw [List.append_nil] at hW' hlt
  have hT : ∀ t ∈ f.params.toList, t < P.types.size := fun t ht => by simpa using List.all_eq_true.1 htp t ht
  refine post_ext (pa := p) (pv := []) hW' (fun _ _ _ => ?_) (fun sp hsp => ?_) (fun sp _ => ?_) (by simp) hx ?_
  · rw [hres, hrt]
    exact trodAll_cons_mk (shut_bool htb _) trodAll_mk0
  · rw [hargs]
    exact DataW.TrodAll.respare (kids_rows hl hm) (slices_full_of P hz) hT (trodAll_carry hA fun x hx' => hx.same (hlt x hx')) hsp
  · rw [hvars, hv]; rfl
  · exact ok_one hrt rfl (okWide_bool_mk htb _)
section
variable {P : Program} {H : Type} {enc : TypeId × Value → H} {w : World} {t e : TypeId} {v : Value} {d : DataW H} {ps : List MemPlace} {r : Reach} {b0 : Nat}
theorem open_strs (ht : P.underlying t = some (.slice e)) (he : P.underlying e = some .string) (hc : P.cellsOf e = 1) (hval : Value.okWide P w r b0 t v) (hd : DataW.Trod enc P w 0 (fun _ => true) true t v d ps) :
    ∃ (p : Option Addr) (c : Nat) (l : List ByteArray), v = .slice p l.length c ∧ (l ≠ [] → ∃ a, p = some a) ∧ (∀ a, p = some a → ∀ j s, l[j]? = some s → w.cell? (a.add j) = some (.string s)) ∧ ∀ s ∈ l, s.size ≤ maxLen := by
  obtain ⟨a0, len, cap, rfl⟩ := okWide_slice ht hval
  obtain ⟨fuel, hf⟩ := hd
  rcases open_strings ht he hc hf with ⟨h0, -⟩ | ⟨a, len', cap', ss, h0, h1, h2, h3, h4, h5, h6, h7⟩
  · have : a0 = none ∧ len = 0 ∧ cap = 0 := by simpa [Value.cells] using h0
    obtain ⟨rfl, rfl, rfl⟩ := this
    exact ⟨none, 0, [], rfl, fun h => absurd rfl h, (fun a ha => by cases ha), fun s hs => by cases hs⟩
  · have : a0 = some a ∧ len = len' ∧ cap = cap' := by simpa [Value.cells] using h0
    obtain ⟨rfl, rfl, rfl⟩ := this
    simp only [if_true] at h4
    refine ⟨some a, cap, ss.take len, by rw [List.length_take]; congr 1; omega, fun _ => ⟨a, rfl⟩, fun a' ha' j s hs => ?_, fun s hs => h7 s (List.mem_of_mem_take hs)⟩
    cases ha'
    rw [List.getElem?_take] at hs
    split at hs
    · have hj := (List.getElem?_eq_some_iff.1 hs).1
      rw [h6 j hj, List.getD_eq_getElem?_getD, hs]; rfl
    · cases hs
theorem open_u8s (ht : P.underlying t = some (.slice e)) (he : P.underlying e = some (.int .u8)) (hc : P.cellsOf e = 1) (hval : Value.okWide P w r b0 t v) (hd : DataW.Trod enc P w 0 (fun _ => true) true t v d ps) :
    ∃ (p : Option Addr) (c : Nat) (l : List UInt8), v = .slice p l.length c ∧ (l ≠ [] → ∃ a, p = some a) ∧ (∀ a, p = some a → ∀ j (s : UInt8), l[j]? = some s → w.cell? (a.add j) = some (.int .u8 s.toNat)) := by
  obtain ⟨a0, len, cap, rfl⟩ := okWide_slice ht hval
  obtain ⟨fuel, hf⟩ := hd
  rcases open_ints ht he hc hf with ⟨h0, -⟩ | ⟨a, len', cap', ss, h0, h1, h2, h3, h4, h5, h6, h7⟩
  · have : a0 = none ∧ len = 0 ∧ cap = 0 := by simpa [Value.cells] using h0
    obtain ⟨rfl, rfl, rfl⟩ := this
    exact ⟨none, 0, [], rfl, fun h => absurd rfl h, (fun a ha => by cases ha)⟩
  · have : a0 = some a ∧ len = len' ∧ cap = cap' := by simpa [Value.cells] using h0
    obtain ⟨rfl, rfl, rfl⟩ := this
    simp only [if_true] at h4
    refine ⟨some a, cap, (ss.take len).map fun n => UInt8.ofNat n.toNat, by rw [List.length_map, List.length_take]; congr 1; omega, fun _ => ⟨a, rfl⟩, fun a' ha' j s hs => ?_⟩
    cases ha'
    rw [List.getElem?_map, List.getElem?_take] at hs
    split at hs
    · cases hz : ss[j]? with
      | none => rw [hz] at hs; cases hs
      | some z =>
        rw [hz] at hs
        simp only [Option.map_some, Option.some.injEq] at hs
        have hj := (List.getElem?_eq_some_iff.1 hz).1
        have hw := u8_of (h7 z (List.mem_of_getElem? hz))
        rw [h6 j hj, List.getD_eq_getElem?_getD, hz]
        have : ((UInt8.ofNat z.toNat).toNat : Int) = z := by simp; omega
        rw [← hs, this]; rfl
    · cases hs
end
end Go.Sh
namespace Go.Proofs.YtdfkifgkccnaiaaGreatDoor
theorem own : ownKnob Tryz.prog.godebug = none := by kernel_rfl
theorem rows_laid : laidOutB Tryz.prog = true := by kernel_rfl
theorem rows_maps : mapsRowed Tryz.prog = true := by kernel_rfl
theorem rows_full : ((List.range Tryz.prog.types.size).all fun t => match Tryz.prog.underlying t with | some (.slice e) => decide (0 < Tryz.prog.cellsOf e) | _ => true) = true := by kernel_rfl
end Go.Proofs.YtdfkifgkccnaiaaGreatDoor
