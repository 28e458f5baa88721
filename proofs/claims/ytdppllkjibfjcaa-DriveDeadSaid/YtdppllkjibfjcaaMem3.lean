import Derived.Test.YtdppllkjibfjcaaMem2
/-! Memory in parts, on: a slice of one great thing. -/
namespace Go.Sh
open Go.RowKit
theorem zip_put : ∀ (l : List Value) (k : Nat) (cs : Array Value), (l.zipIdx k).foldl (fun cs x => cs.setIfInBounds (0 + x.2) x.1) cs = putAt cs k l
  | [], _, _ => rfl
  | x :: l, k, cs => by
    simp only [List.zipIdx_cons, List.foldl_cons, putAt, Nat.zero_add]
    have := zip_put l (k + 1) (cs.setIfInBounds k x)
    simpa only [Nat.zero_add] using this
theorem putAt_all {c z : Array Value} (h : c.size = z.size) : putAt c 0 z.toList = z := by
  apply Array.ext_getElem?
  intro j
  rw [putAt_get]
  split
  · simp
  · rename_i hn
    simp only [Array.length_toList] at hn
    rw [Array.getElem?_eq_none (by omega), Array.getElem?_eq_none (by omega)]
theorem fill_one {n : Nat} {c z : Array Value} (hz : z.size = n) (hc : c.size = n) : Instr.fill (fun j => some (j * n, n)) c [(0, .agg z)] = some z := by
  have h1 : (Value.agg z).cells = z := rfl
  simp only [Instr.fill, Nat.zero_mul, h1, hz, Nat.zero_add, hc, ne_eq, not_true, decide_false, Bool.false_or, Nat.lt_irrefl, gt_iff_lt]
  have h2 := zip_put z.toList 0 c
  simp only [Nat.zero_add] at h2
  rw [← Array.foldl_toList, Array.toList_zipIdx, h2, putAt_all (by omega)]
  rfl
theorem litOne {P : Program} {t el : TypeId} {i : TypeInfo} {z : Array Value} (ht : P.underlying t = some (.slice el)) (hi : P.info? el = some i) (hz : z.size = P.cellsOf el) (h0 : P.cellsOf el ≠ 0) (hb : P.cellsOf el ≤ 16777216) {zv : Value} (hzv : i.zero = some zv) :
    litCells P t 1 [(0, .agg z)] = some (z, el) := by
  have h1 : ¬ (1 * P.cellsOf el > 2 ^ 24) := by omega
  have h2 : ¬ (1 * P.cellsOf el = 0) := by omega
  simp only [litCells, ht, hi, if_neg h1, if_neg h2, hzv, Option.map_some]
  rw [fill_one hz (by simp)]
  rfl
end Go.Sh
