import Derived.Test.YtdppllkjibfjcaaMem4
import Derived.Laws.IdiomRangeMap
/-! Memory in parts, on: a map's entries, one by one. -/
namespace Go.Sh
open Go.RowKit
theorem range_t {P : Program} {F : List Nat} {w0 w : World} {Γ : List A} {t k e : TypeId} {bm clock : Nat} {l : List Ent} (ht : P.underlying t = some (.map k e)) (hT : T F w0 w Γ) (hm : mapP bm l clock ∈ Γ) :
    (Instr.range t (.map (some bm))).run P w = .ok (.pointer (some ⟨w.heap.size, 0, none⟩)) (w.alloc (.mapIter (some bm) clock #[] clock)) ∧ T F w0 (w.alloc (.mapIter (some bm) clock #[] clock)) (ob w.heap.size (.mapIter (some bm) clock #[] clock) :: Γ) :=
  ⟨run_range_map w t k e bm _ clock ht (hT.got hm), hT.alloc _⟩
/-- the next entry, whichever: the iterator lies anywhere -/
theorem next_t {P : Program} {F : List Nat} {w0 w : World} {Γ : List A} {ty : TypeId} {r bm since c0 clock : Nat} {seen : Array Nat} {es : Array MapEntry} (hT : T F w0 w Γ) (hm : ob bm (.map es clock) ∈ Γ) (hr : ob r (.mapIter (some bm) since seen c0) ∈ Γ)
    (hold : ∀ x ∈ es.toList, x.born < since) (hsc : since ≤ c0) :
    ((leftOf es seen).size = 0 ∧ (Instr.next (.pointer (some ⟨r, 0, none⟩)) false ty).run P w = .ok (.tuple #[.bool false]) w) ∨
    ∃ e ∈ (leftOf es seen).toList, ∃ w', (Instr.next (.pointer (some ⟨r, 0, none⟩)) false ty).run P w = .ok (.tuple #[.bool true, e.key, e.val]) w' ∧
      ∀ Γ', Turn (ob r (.mapIter (some bm) since seen c0)) (ob r (.mapIter (some bm) since (seen.push e.born) clock)) Γ Γ' → T F w0 w' Γ' := by
  have hb := hT.got hm
  have hi := hT.got hr
  have hi2 : (getObj r).run P w = .ok (.mapIter (some bm) since seen c0) w := by simp [getObj, Sem.run, hi]
  have hb2 : (getObj bm).run P w = .ok (.map es clock) w := by simp [getObj, Sem.run, hb]
  simp only [Instr.next, Sem.run_bind, hi2, hb2, Result.andThen_ok, next_test_false seen es since c0 hold hsc, Bool.false_eq_true, if_false]
  unfold leftOf
  have hmem : ∀ x ∈ (Array.filter (fun e => !seen.contains e.born) es).toList, x.born < since := fun x hx => hold x (by simp at hx ⊢; exact hx.1)
  generalize Array.filter (fun e => !seen.contains e.born) es = L at hmem ⊢
  have e1 : L.filter (fun x => decide (x.born < since)) = L := Array.filter_eq_self.2 (fun x hx => by simpa using hmem x (by simpa using hx))
  have e2 : L.filter (fun x => decide (x.born ≥ since)) = #[] := by
    rw [Array.filter_eq_empty_iff]
    intro x hx
    have := hmem x (by simpa using hx)
    simp
    omega
  simp only [e1, e2, Array.append_empty]
  by_cases h0 : L.size = 0
  · left
    have : L = #[] := Array.eq_empty_of_size_eq_zero h0
    subst this
    refine ⟨rfl, ?_⟩
    simp [choose, Sem.run, Question.forced]
  · right
    have hne : L.isEmpty = false := by simp [Array.isEmpty, h0]
    simp only [hne, Bool.false_eq_true, if_false, Array.empty_append, Array.size_map]
    have hch : ∃ (j : Nat) (w1 : World), j < L.size ∧ w1.heap = w.heap ∧ T F w0 w1 Γ ∧ (choose (Question.mapNext L.size)).run P w = .ok j w1 := by
      by_cases hf : L.size ≤ 1
      · exact ⟨0, w, by omega, rfl, hT, by simp [choose, Sem.run, Question.forced, hf]⟩
      · exact ⟨_, w.drew, Nat.mod_lt _ (by omega), rfl, hT.drew, by
          simp only [choose, Sem.run, Question.forced, decide_eq_true_eq, hf, if_false, Question.cut]
          rfl⟩
    obtain ⟨j, w1, hj, hal, hT1, hrun⟩ := hch
    have hi1 : w1.heap[r]? = some (.mapIter (some bm) since seen c0) := hT1.got hr
    refine ⟨L[j], by simp, { w1 with heap := w1.heap.setIfInBounds r (.mapIter (some bm) since (seen.push L[j].born) clock) }, ?_, fun Γ' hu => hT1.set hu⟩
    have hset : (setObj r (.mapIter (some bm) since (seen.push L[j].born) clock)).run P w1 = .ok () { w1 with heap := w1.heap.setIfInBounds r (.mapIter (some bm) since (seen.push L[j].born) clock) } := setObj_run hi1 (fun _ _ _ h => by cases h)
    simp only [hrun, Array.getElem?_map, Array.getElem?_eq_getElem hj, Option.map_some, Sem.run_bind, hset, Result.andThen]
    rfl
end Go.Sh
