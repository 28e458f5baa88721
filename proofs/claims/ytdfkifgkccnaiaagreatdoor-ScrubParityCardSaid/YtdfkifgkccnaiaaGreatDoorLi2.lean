import Derived.Test.YtdfkifgkccnaiaaGreatDoorLi1
/-! slices.Sorted. -/
namespace Go.Proofs.YtdfkifgkccnaiaaGreatDoor
open Go.Sh Go.RowKit
set_option linter.unusedVariables false
set_option linter.unusedSimpArgs false
set_option maxRecDepth 20000
set_option maxHeartbeats 1000000
/-- sorted -/
def srt (l : List Int) : List Int := l.mergeSort fun x y => decide (x ≤ y)
theorem srt_len (l : List Int) : (srt l).length = l.length := List.length_mergeSort _
theorem srt_mem (l : List Int) (x : Int) : x ∈ srt l ↔ x ∈ l := List.mem_mergeSort
theorem putCells_row {n cap : Nat} {cur : Array Value} {l l' : List Int} (hc : cur.size = cap) (hn : n ≤ cap) (hl : l'.length = n) (h : cur.toList.take n = intsI l) : (Go.Sort.putCells (Value.int .i64) 0 l'.toArray cur).toList.take n = intsI l' := by
  apply List.ext_getElem?
  intro j
  rw [List.getElem?_take]
  by_cases hj : j < n
  · rw [if_pos hj, Array.getElem?_toList]
    unfold Go.Sort.putCells
    rw [Array.getElem?_mapIdx, Array.getElem?_eq_getElem (by omega)]
    simp [hl, hj, intsI, List.getElem?_eq_getElem (show j < l'.length by omega), getElem!_pos l' j (by omega)]
  · rw [if_neg hj, List.getElem?_eq_none (by rw [intsI_len]; omega)]
theorem sort_spec {l : List Int} (hl : l.length ≤ 1000000) {g : Option Nat} {cap : Nat} {w0 w : World} {Γ : List A} (hT : T [] w0 w (rowP 3 1 g l.length cap (intsI l) :: Γ)) :
    Calls Tryz.prog 65 #[.slice (ptr g) l.length cap] w fun e w' => e = .returned (.tuple #[]) ∧ T [] w0 w' (rowP 3 1 g l.length cap (intsI (srt l)) :: Γ) := by
  by_cases h0 : l.length = 0
  · have : l = [] := List.eq_nil_of_length_eq_zero h0
    subst this
    refine (Tryz.slices_Sort_int_none (ptr g) cap w).mono fun e w' ⟨he, hw⟩ => ⟨he, ?_⟩
    subst hw
    have : srt [] = [] := List.eq_nil_of_length_eq_zero (srt_len [])
    rw [this]; exact hT
  · obtain ⟨b, rfl⟩ : ∃ b, g = some b := rowP.pos (hT.says List.mem_cons_self) (by omega)
    obtain ⟨h1, h2, h3, cur, h4, h5, h6⟩ := hT.says List.mem_cons_self
    have h4 : w.heap[b]? = some (.cells cur 3 (0, 0)) := h4
    have hb : b < w.heap.size := lt_of_heap h4
    rw [Nat.mul_one] at h5 h6
    have hH : Go.Sort.Holds (Value.int .i64) w b 0 l.toArray := by
      intro j hj
      have hj : j < l.length := by simpa using hj
      rw [Nat.zero_add]
      refine ⟨?_, by simp [World.frozen?, h4]⟩
      refine rowP.cell (hT.says List.mem_cons_self) ?_
      simp [intsI, hj, getElem!_pos l j hj]
    refine (Tryz.slices_Sort_int b 0 cap l w hH hb (by omega)).mono fun e w' ⟨he, n, os, hw⟩ => ⟨he, ?_⟩
    subst hw
    have hsz : (Go.Sort.putRow (Value.int .i64) (Go.Sort.ahead w n) b 0 (srt l).toArray).heap.size = w.heap.size := by
      show (w.heap.modify b _).size = _
      rw [Array.size_modify]
    have hat : ∀ c, c < w.heap.size → (Go.Sort.grow (Go.Sort.putRow (Value.int .i64) (Go.Sort.ahead w n) b 0 (srt l).toArray) os).heap[c]? = (w.heap.modify b (Go.Sort.onCells (Go.Sort.putCells (Value.int .i64) 0 (srt l).toArray)))[c]? := fun c hc => by
      show ((w.heap.modify b _) ++ os)[c]? = _
      rw [Array.getElem?_append_left (by rw [Array.size_modify]; exact hc)]
    change T [] w0 (Go.Sort.grow (Go.Sort.putRow (Value.int .i64) (Go.Sort.ahead w n) b 0 (srt l).toArray) os) _
    refine hT.turn (x := rowP 3 1 (some b) l.length cap (intsI l)) rfl rfl ?_ (fun c hc hn => ?_) (by simp [rowP]) (fun c hc => ?_) ?_
    · show w.heap.size ≤ ((w.heap.modify b _) ++ os).size
      rw [Array.size_append, Array.size_modify]; omega
    · rw [hat c hc, Array.getElem?_modify, if_neg (fun e => hn (by simp [rowP, e]))]
    · obtain rfl : c = b := by simpa [rowP] using hc
      refine ⟨?_, .inl (by simp [rowP])⟩
      show c < ((w.heap.modify c _) ++ os).size
      rw [Array.size_append, Array.size_modify]; omega
    · refine ⟨by rw [intsI_len, srt_len, Nat.mul_one], h2, h3, Go.Sort.putCells (Value.int .i64) 0 (srt l).toArray cur, ?_, ?_, ?_⟩
      · show (Go.Sort.grow _ os).heap[b]? = _
        rw [hat b hb, Array.getElem?_modify, if_pos rfl, h4]
        rfl
      · unfold Go.Sort.putCells; rw [Array.size_mapIdx, h5, Nat.mul_one]
      · rw [Nat.mul_one]
        exact putCells_row h5 h2 (srt_len l) h6
theorem sorted_spec {l : List Int} (hl : l.length ≤ 100000) {p : Option Addr} {c : Nat} {k : Nat} {w0 w : World} {Γ : List A} (hr : ∀ w', Ext w0 w' → intsL w' p l) (hT : T [] w0 w (blk k #[.slice p l.length c] 44 :: Γ)) :
    Calls Tryz.prog 39 #[.func (.func 66) #[] #[.pointer (some ⟨k, 0, none⟩)]] w fun e w' => ∃ g cap, e = .returned (.slice (ptr g) l.length cap) ∧ T [] w0 w' (rowP 3 1 g l.length cap (intsI (srt l)) :: Γ) := by
  refine (slices_Sorted_int_calls (R := fun v w' => ∃ g cap, v = .slice (ptr g) l.length cap ∧ T [] w0 w' (rowP 3 1 g l.length cap (intsI (srt l)) :: Γ)) ?_).mono fun e w' ⟨v, he, g, cap, hv, h⟩ => ⟨g, cap, by rw [he, hv], h⟩
  unfold slices_Sorted_int
  refine (slices_Collect_int_calls (R := fun v w' => ∃ g cap, v = .slice (ptr g) l.length cap ∧ T [] w0 w' (rowP 3 1 g l.length cap (intsI l) :: Γ)) ?_).mono ?_
  · unfold slices_Collect_int
    exact (appendSeq_spec hl hr hT).mono fun e w1 ⟨g, cap, he, h1⟩ => ⟨_, _, _, he, g, cap, rfl, h1⟩
  · rintro e w1 ⟨v, he, g, cap, rfl, h1⟩
    exact ⟨_, _, _, he, (sort_spec (by omega) h1).mono fun e w2 ⟨he, h2⟩ => ⟨he, g, cap, rfl, h2⟩⟩
end Go.Proofs.YtdfkifgkccnaiaaGreatDoor
