import Derived.Test.YtdppllkjibfjcaaDr9
/-! drive: the pending writes of a sector, as calls turn them. -/
namespace Go.Proofs.Ytdppllkjibfjcaa
open Go.Sh
set_option linter.unusedVariables false
def pendW (ws : List WE) (i : Int) : List ByteArray := match ws.find? (fun e => e.k == i) with
  | some e => e.l
  | none => []
theorem pend_cons (x : WE) (ws : List WE) (i : Int) : pendW (x :: ws) i = if x.k = i then x.l else pendW ws i := by
  unfold pendW
  rw [List.find?_cons]
  by_cases h : x.k = i
  · simp [h]
  · have : (x.k == i) = false := by simpa using h
    simp [this, h]
theorem wr_pend {i : Int} {s : ByteArray} {clk : Nat} {ws ws' : List WE} (h : Wr i s clk ws ws') (j : Int) : pendW ws' j = if j = i then pendW ws i ++ [s] else pendW ws j := by
  cases h with
  | new g cap h =>
    induction ws with
    | nil =>
      rw [List.nil_append, pend_cons]
      by_cases hj : j = i
      · subst hj; simp [pendW]
      · rw [if_neg (fun e => hj e.symm), if_neg hj]
    | cons x ws ih =>
      rw [List.find?_cons] at h
      split at h
      · cases h
      · rename_i hx
        have hx : ¬ x.k = i := by simpa using hx
        rw [List.cons_append, pend_cons, pend_cons, pend_cons, ih h, if_neg hx]
        by_cases hj : j = i
        · subst hj; simp [hx]
        · simp [hj]
  | @old a b e g cap he ha =>
    induction a with
    | nil =>
      rw [List.nil_append, List.nil_append, pend_cons, pend_cons, pend_cons, if_pos he]
      by_cases hj : j = i
      · subst hj; simp
      · rw [if_neg (fun e => hj e.symm), if_neg hj, if_neg (fun h => hj (h.symm.trans he))]
    | cons x a ih =>
      have hx : ¬ x.k = i := ha x List.mem_cons_self
      rw [List.cons_append, List.cons_append, pend_cons, pend_cons, pend_cons, ih fun y hy => ha y (List.mem_cons_of_mem _ hy), if_neg hx]
      by_cases hj : j = i
      · subst hj; simp [hx]
      · simp [hj]
end Go.Proofs.Ytdppllkjibfjcaa
