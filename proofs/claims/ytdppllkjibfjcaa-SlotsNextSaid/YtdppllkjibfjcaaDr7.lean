import Derived.Test.YtdppllkjibfjcaaDr6
import Derived.Test.YtdppllkjibfjcaaMem7
/-! drive: Change. -/
namespace Go.Proofs.Ytdppllkjibfjcaa
open Go.Sh
set_option linter.unusedVariables false
set_option maxHeartbeats 1000000
theorem flat_app (a b : List ByteArray) : flat (a ++ b) = flat a ++ flat b := by simp [flat]
theorem flat_set {l : List ByteArray} (h : ∀ s ∈ l, s.size = 64) {i : Nat} (hi : i < l.length) {s : ByteArray} (hs : s.size = 64) :
    (flat l).take (i * 64) ++ vals s ++ (flat l).drop (i * 64 + 64) = flat (l.set i s) := by
  have h1 : l = l.take i ++ l[i] :: l.drop (i + 1) := by rw [List.getElem_cons_drop, List.take_append_drop]
  have ht : (flat (l.take i)).length = i * 64 := by rw [flat_len fun x hx => h x (List.mem_of_mem_take hx)]; rw [List.length_take]; congr 1; omega
  have hc : (vals l[i]).length = 64 := by rw [vals_len, h _ (List.getElem_mem hi)]
  have e1 : flat l = flat (l.take i) ++ (vals l[i] ++ flat (l.drop (i + 1))) := by
    conv => lhs; rw [h1]
    rw [flat_app]; rfl
  have e2 : l.set i s = l.take i ++ s :: l.drop (i + 1) := List.set_eq_take_append_cons_drop .. |>.trans (by rw [if_pos hi])
  rw [e2, flat_app, e1, List.take_left' ht, ← List.drop_drop, List.drop_left' ht, List.drop_left' hc, List.append_assoc]
  rfl
/-- the writes of one sector are gone -/
inductive Er (i : Int) : List WE → List WE → Prop
  | none {ws : List WE} (h : ws.find? (fun e => e.k == i) = none) : Er i ws ws
  | some {a b : List WE} {e : WE} (h : e.k = i) (ha : ∀ x ∈ a, x.k ≠ i) : Er i (a ++ e :: b) (a ++ b)
theorem eraseK_mid (i : Int) (e : WE) (b : List WE) (he : e.k = i) : ∀ a : List WE, (∀ x ∈ a, x.k ≠ i) → eraseK i ((a ++ e :: b).map WE.ent) = (a ++ b).map WE.ent
  | [], _ => by simp [eraseK, WE.ent, he]
  | x :: a, h => by
    have hx : ¬ x.k = i := h x List.mem_cons_self
    have := eraseK_mid i e b he a fun y hy => h y (List.mem_cons_of_mem _ hy)
    simp only [List.cons_append, List.map_cons, eraseK, WE.ent, hx, if_false] at this ⊢
    rw [this]
theorem eraseK_none (i : Int) : ∀ ws : List WE, ws.find? (fun e => e.k == i) = none → eraseK i (ws.map WE.ent) = ws.map WE.ent
  | [], _ => rfl
  | x :: a, h => by
    rw [List.find?_cons] at h
    split at h
    · cases h
    · rename_i hx
      have hx : ¬ x.k = i := by simpa using hx
      simp only [List.map_cons, eraseK, WE.ent, hx, if_false]
      rw [show List.map WE.ent a = a.map WE.ent from rfl, eraseK_none i a h]
theorem er_any (i : Int) (ws : List WE) : ∃ ws', Er i ws ws' ∧ eraseK i (ws.map WE.ent) = ws'.map WE.ent ∧ ∃ gone, (ws.map WE.row).Perm (gone ++ ws'.map WE.row) := by
  cases hf : ws.find? (fun e => e.k == i) with
  | none => exact ⟨ws, .none hf, eraseK_none i ws hf, [], .refl _⟩
  | some e =>
    obtain ⟨hek, a, b, hws, ha⟩ := List.find?_eq_some_iff_append.1 hf
    have hek : e.k = i := by simpa using hek
    have ha : ∀ x ∈ a, x.k ≠ i := fun x hx => by have := ha x hx; simpa using this
    subst hws
    refine ⟨a ++ b, .some hek ha, eraseK_mid i e b hek a ha, [e.row], ?_⟩
    rw [List.map_append, List.map_cons, List.map_append]
    exact List.perm_middle
end Go.Proofs.Ytdppllkjibfjcaa
