import Derived.Test.YtdppllkjibfjcaaDr11
import Derived.Test.YtdppllkjibfjcaaKeys
import Derived.Test.YtdppllkjibfjcaaMem7
/-! drive: the keys of a map, sorted. -/
namespace Go.Proofs.Ytdppllkjibfjcaa
open Go.Sh Go.RowKit Go.Maps Go.Sort Go.Shelf
set_option linter.unusedVariables false
set_option maxRecDepth 20000
def plainR {H : Type} : Value → Option (DataW H × List MemPlace) := fun _ => some (.nil, [])
theorem keys_fit {H : Type} {P : Program} {kt : TypeId} (hk : P.underlying kt = some (.int .i64)) {l : List Ent} {clock : Nat} (hn : l.length ≤ 5000) (hb : ∀ x ∈ l, x.2.2 < clock) (hd : (l.map (·.2.2)).Nodup) (hkn : (l.map (·.1)).Nodup)
    (hw : ∀ x ∈ l, (Lit.int .i64 x.1).wf = true) : Go.WideElems.Fit P kt (plainR (H := H)) (l.map ent).toArray clock := by
  refine ⟨by simp only [List.size_toArray, List.length_map, maxLen]; omega, ⟨fun x hx => ?_, ?_, ?_⟩, fun x hx => ?_⟩
  · obtain ⟨y, hy, rfl⟩ := List.mem_map.1 (show x ∈ l.map ent from hx)
    exact hb y hy
  · show ((l.map ent).map (·.born)).Nodup
    rw [List.map_map]; exact hd
  · show ((l.map ent).map (·.key)).Nodup
    have e : (l.map ent).map (·.key) = (l.map (·.1)).map (Value.int .i64) := by simp [ent]
    rw [e]
    exact List.Pairwise.map _ (fun a b hab he => hab (by simpa using he)) hkn
  · obtain ⟨y, hy, rfl⟩ := List.mem_map.1 (show x ∈ l.map ent from hx)
    exact ⟨_, Go.WideElems.rd_mk (keyOf_int_mk hk (hw y hy)) rfl⟩
theorem intKeys_perm {H : Type} {P : Program} {kt : TypeId} (hk : P.underlying kt = some (.int .i64)) {l : List Ent} (hw : ∀ x ∈ l, (Lit.int .i64 x.1).wf = true) :
    (intKeys (DataW.map (((l.map ent).map (Go.WideElems.rg P kt (plainR (H := H)))).foldr DataW.insert []))).Perm (l.map (·.1)) := by
  refine (List.Perm.map _ (WideShapes.sorted_perm _)).trans ?_
  rw [List.map_map, List.map_map]
  refine List.Perm.of_eq (List.map_congr_left fun x hx => ?_)
  have h1 : Go.WideElems.rg P kt (plainR (H := H)) (ent x) = (.int .i64 x.1, .nil) := Go.WideElems.rg_of (Go.WideElems.rd_mk (yv := (.nil, [])) (keyOf_int_mk hk (hw x hx)) rfl)
  simp only [Function.comp, h1]
  rfl
theorem T.below {F : List Nat} {w0 w w' : World} {Γ : List A} (h : T F w0 w Γ) (hb : Below w.heap.size w w') : T F w0 w' Γ :=
  h.quiet ⟨hb.os, hb.output, hb.size, hb.block⟩
theorem sorts_at (m : Nat) : AnyZI.SortsIn Try.prog Try.sorted70_ren Fence.wide m :=
  ⟨fun blk off cap ss W hH hblk hsz => callsIn_wide.2 (AnyM.slices_Sort_int Try.sort87 blk off cap ss W hH hblk hsz),
   fun p cap W => callsIn_wide.2 (AnyM.slices_Sort_int_none Try.sort87 p cap W)⟩
theorem T.ownRow {F : List Nat} {w0 w w' : World} {Γ : List A} {base size n : Nat} {e : TypeId} {v : Value} {xs : List Value} (h : T F w0 w Γ) (hb : Below base w w') (hbase : base = w.heap.size) (ho : w'.ownsRow base e size v n xs) :
    ∃ g cap, v = .slice (ptr g) n cap ∧ T F w0 w' (rowP e size g n cap xs :: Γ) := by
  subst hbase
  have h1 := T.below h hb
  obtain ⟨hx, ⟨rfl, rfl⟩ | ⟨g, cap, cur, rfl, hg, hc, h2, h3, h4, h5⟩⟩ := ho
  · have : xs = [] := List.eq_nil_of_length_eq_zero (by simpa using hx)
    subst this
    exact ⟨none, 0, rfl, h1.nilRow e size⟩
  · refine ⟨some g, cap, rfl, h1.chg, ?_, fun b hb' => ?_, fun a ha => ?_⟩
    · refine List.nodup_append.2 ⟨by simp [rowP], h1.nodup, fun x hx' y hy he => ?_⟩
      subst he
      obtain rfl : x = g := by simpa [rowP] using hx'
      have := (h.own _ hy).1
      omega
    · rcases List.mem_append.1 hb' with hb' | hb'
      · obtain rfl : b = g := by simpa [rowP] using hb'
        exact ⟨lt_of_heap hc, .inr (Nat.le_trans h.chg.size hg)⟩
      · exact h1.own b hb'
    · rcases List.mem_cons.1 ha with rfl | ha
      · exact ⟨hx, h2, h3, cur, hc, h4, h5⟩
      · exact h1.holds a ha
theorem keys_spec {F : List Nat} {w0 w : World} {Γ : List A} {bm clock : Nat} {l : List Ent} (hT : T F w0 w Γ) (hm : mapP bm l clock ∈ Γ) {n : Nat} (hln : l.length = n) (hn : l.length ≤ 5000) (hb : ∀ x ∈ l, x.2.2 < clock) (hd : (l.map (·.2.2)).Nodup) (hkn : (l.map (·.1)).Nodup)
    (hw : ∀ x ∈ l, (Lit.int .i64 x.1).wf = true) {Φ : Ending → World → Prop}
    (hΦ : ∀ (g : Option Nat) (cap : Nat) (w2 : World), T F w0 w2 (rowP 3 1 g n cap (((l.map (·.1)).mergeSort leI).map (.int .i64)) :: Γ) → Φ (.returned (.slice (ptr g) n cap)) w2) :
    Calls Try.prog 71 #[.map (some bm)] w fun e w1 => ∃ v, e = .returned v ∧ Calls Try.prog 70 #[v] w1 Φ := by
  subst hln
  have hi : Try.prog.underlying 3 = some (.int .i64) := by kernel_rfl
  have hmb := hT.got hm
  have Ft := keys_fit (H := Unit) hi hn hb hd hkn hw
  have hown : w.ownsMap Try.prog 3 (plainR (H := Unit)) bm 5000 (.map (((l.map ent).toArray.toList.map (Go.WideElems.rg Try.prog 3 plainR)).foldr DataW.insert [])) := ⟨_, _, hmb, Ft, by simpa using hn, rfl⟩
  have hp := intKeys_perm (H := Unit) hi hw
  have hsz : Maps.size (DataW.map (((l.map ent).toArray.toList.map (Go.WideElems.rg Try.prog 3 (plainR (H := Unit)))).foldr DataW.insert [])) = l.length := by
    show (List.foldr DataW.insert [] ((l.map ent).map _)).length = _
    rw [(WideShapes.sorted_perm _).length_eq]; simp
  have hbl := hown.lt
  have hseq : SeqGives Fence.wide 2 Try.prog 88 #[.pointer (some ⟨w.heap.size, 0, none⟩)] encZ (fun ss => ss.Perm (intKeys _)) (Maps.size _) (w.alloc (.cells #[.map (some bm)] 82)) :=
    AnyZI.keys_gives (ρ := Try.keys71_ren) { Try.keys71 with } Fence.wide _ trivial rfl (by omega) w.heap.size bm 5000 _ _ (by simp) (by simp) (by
      obtain ⟨es, clock, hb, Ft, hs, hD⟩ := hown
      exact ⟨es, clock, (Below.heap_alloc _ _ bm hbl).trans hb, Ft, hs, hD⟩)
  have cK : CallsIn Fence.wide 5 Try.prog 71 #[.map (some bm)] w fun e w' => e = .returned (.func (.func 88) #[] #[.pointer (some ⟨w.heap.size, 0, none⟩)]) ∧ w' = w.alloc (.cells #[.map (some bm)] 82) := AnyZI.keys_in Try.keys71 Fence.wide 5 trivial rfl (some bm) w
  have cS := AnyZI.sorted_in Try.sorted70 Fence.wide 5 trivial trivial trivial trivial rfl (by omega) (sorts_at _) (enters_of Try.func87 (by kernel_rfl) rfl) 88 #[.pointer (some ⟨w.heap.size, 0, none⟩)] trivial (enters_of Try.func88 (by kernel_rfl) rfl) _ _ (by rw [hsz]; simp only [maxLen]; omega) (by rw [hsz]; omega) _ hseq
  change CallsIn _ _ Try.prog 70 _ _ _ at cS
  refine (callsIn_wide.1 cK).mono ?_
  rintro e w1 ⟨rfl, rfl⟩
  refine ⟨_, rfl, (callsIn_wide.1 cS).mono ?_⟩
  rintro e w2 ⟨v, ss, rfl, hS, hrow, -, hbel⟩
  have hss : ss.Perm (l.map (·.1)) := List.Perm.trans hS hp
  have hl : ss.length = l.length := by rw [hss.length_eq]; simp
  have hrow' : w2.ownsRow (w.alloc (.cells #[.map (some bm)] 82)).heap.size 3 1 v ss.length ((ss.mergeSort (fun x y => decide (x ≤ y))).map encZ) := hrow
  have hms : ss.mergeSort (fun x y => decide (x ≤ y)) = (l.map (·.1)).mergeSort leI := mergeSort_of_perm_i hss
  rw [hl, hms] at hrow'
  obtain ⟨g, cap, rfl, hT2⟩ := T.ownRow (hT.alloc _) hbel rfl hrow'
  exact hΦ g cap w2 (T.drop (hT2.swap (.swap _ _ _)))
end Go.Proofs.Ytdppllkjibfjcaa
