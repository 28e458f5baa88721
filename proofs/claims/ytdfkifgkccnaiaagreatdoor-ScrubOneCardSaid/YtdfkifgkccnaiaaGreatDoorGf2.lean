import Derived.Test.YtdfkifgkccnaiaaGreatDoorBy
import Derived.Lib.ConvBytes
/-! A row of bytes that a conversion of a text laid. -/
namespace Go.Proofs.YtdfkifgkccnaiaaGreatDoor
open Go.Sh Go.RowKit
set_option linter.unusedVariables false
set_option maxRecDepth 20000
set_option maxHeartbeats 1000000
def rowZ (e : TypeId) (k n : Nat) (xs : List Value) : A where
  foot := [k]
  holds h := xs.length = n ∧ ∃ (cur : Array Value) (m : Nat), h k = some (.cells cur e (m, m + 1)) ∧ n ≤ m ∧ n ≤ cur.size ∧ cur.toList.take n = xs
  loc := by
    intro h h' he hh
    obtain ⟨h1, cur, m, h2, h3⟩ := hh
    exact ⟨h1, cur, m, (he k (by simp)).trans h2, h3⟩
theorem rowZ.cell {w : World} {e : TypeId} {k n i : Nat} {xs : List Value} {v : Value} (hh : (rowZ e k n xs).holds (hp w)) (hi : xs[i]? = some v) : w.cell? ⟨k, i, none⟩ = some v := by
  obtain ⟨h1, cur, m, h2, _, _, h3⟩ := hh
  have h2 : w.heap[k]? = some (.cells cur e (m, m + 1)) := h2
  rw [← h3, List.getElem?_take] at hi
  split at hi
  · simpa [World.cell?, h2] using hi
  · cases hi
theorem StZ.t {F : List Nat} {w0 w : World} {Γ Δ : List A} {e : TypeId} {k n i : Nat} {xs : List Value} {v : Value} {K : World → Prop} (hT : T F w0 w Γ) (hk : Pick (rowZ e k n xs) Γ Δ) (hi : i < n) (hv : scalar v = true)
    (h : ∀ w', T F w0 w' (rowZ e k n (xs.set i v) :: Δ) → K w') : St ⟨k, i, none⟩ v w K := by
  have hT1 := hT.pick hk
  obtain ⟨h1, cur, m, h4, h5, h6, h7⟩ := hT1.says List.mem_cons_self
  have h4 : w.heap[k]? = some (.cells cur e (m, m + 1)) := h4
  have hb : k < w.heap.size := lt_of_heap h4
  have hs : (w.setCell ⟨k, i, none⟩ v).heap[k]? = some (.cells (cur.setIfInBounds i v) e (m, m + 1)) := by
    show (w.heap.modify k _)[k]? = _
    rw [Array.getElem?_modify, if_pos rfl, h4]
    simp
  refine ⟨⟨cur[i], by simp [World.cell?, h4]⟩, by simp [World.frozen?, h4]; omega, hv, h _ (hT1.turn rfl rfl ?_ (fun c hc hn => setBlock_other fun e => hn (by simp [rowZ, e])) (by simp [rowZ]) ?_ ?_)⟩
  · show w.heap.size ≤ (w.heap.modify k _).size
    rw [Array.size_modify]; exact Nat.le_refl _
  · intro c hc
    obtain rfl : c = k := by simpa [rowZ] using hc
    refine ⟨?_, .inl (by simp [rowZ])⟩
    show c < (w.heap.modify c _).size
    rw [Array.size_modify]; exact hb
  · refine ⟨by simpa using h1, _, m, hs, h5, by simpa using h6, ?_⟩
    rw [← h7, Array.toList_setIfInBounds, List.take_set]
theorem bytes_t {F : List Nat} {w0 w : World} {Γ : List A} (hT : T F w0 w Γ) (s : ByteArray) :
    ∃ k cap w', (convert 9 33 (.string s)).run Tryz.prog w = .ok (.slice (some ⟨k, 0, none⟩) s.size cap) w' ∧ T F w0 w' (rowZ 5 k s.size (bvals s.data.toList) :: Γ) := by
  refine ⟨w.heap.size, _, _, Go.Lib.run_convert_string_bytes (P := Tryz.prog) (u := .string) w 9 33 5 s (by kernel_rfl) (by kernel_rfl) (by kernel_rfl), ?_⟩
  have hx : Ext w (Go.Lib.bytesWorld w 5 s) := ⟨rfl, rfl, by rw [Go.Lib.bytesWorld_size]; omega, fun b hb => Go.Lib.bytesWorld_at_old w 5 s b hb⟩
  have hT1 := hT.quiet hx
  have hl : s.data.toList.length = s.size := Array.length_toList
  have hz : (Go.Lib.bytesCells w 5 s).toList.take s.size = bvals s.data.toList := by
    unfold Go.Lib.bytesCells
    rw [Array.toList_append, List.take_left' (by simp)]
    simp [bvals]
  refine ⟨hT1.chg, ?_, ?_, ?_⟩
  · show (w.heap.size :: feet Γ).Nodup
    exact List.nodup_cons.2 ⟨fun hm => by have := (hT.own _ hm).1; omega, hT.nodup⟩
  · intro b hb
    rcases List.mem_cons.1 hb with rfl | hb
    · exact ⟨by rw [Go.Lib.bytesWorld_size]; omega, .inr hT.chg.size⟩
    · exact hT1.own b hb
  · intro a ha
    rcases List.mem_cons.1 ha with rfl | ha
    · refine ⟨by simp [bvals_len, hl], _, _, Go.Lib.bytesWorld_at_new w 5 s, ?_, ?_, hz⟩
      · unfold Go.Lib.bytesCells; rw [Array.size_append, Array.size_map]; exact Nat.le_add_right _ _
      · unfold Go.Lib.bytesCells; rw [Array.size_append, Array.size_map]; exact Nat.le_add_right _ _
    · exact hT1.holds a ha
theorem row_stringZ {F : List Nat} {w0 w : World} {Γ : List A} {k n cap : Nat} {l : List UInt8} (hT : T F w0 w Γ) (hm : rowZ 5 k n (bvals l) ∈ Γ) : (convert 33 9 (.slice (some ⟨k, 0, none⟩) n cap)).run Tryz.prog w = .ok (.string (strB l)) w := by
  have hs := hT.says hm
  have hl : l.length = n := by have := hs.1; rw [bvals_len] at this; exact this
  have h1 := run_convert_bytes_back (P := Tryz.prog) w 33 9 5 ⟨k, 0, none⟩ cap l (by kernel_rfl) (by kernel_rfl) (by kernel_rfl) (fun j hj => by
    rw [addr_add, Nat.zero_add]
    rw [rowZ.cell hs (i := j) (v := .int .u8 (l[j]).toNat) (by rw [bvals_get, List.getElem?_eq_getElem hj]; rfl)])
  rw [hl] at h1
  exact h1
end Go.Proofs.YtdfkifgkccnaiaaGreatDoor
