import Derived.Test.YtdppllkjibfjcaaLd7
/-! drive's laws: the acts that a statement is handed. -/
namespace Go.Proofs.Ytdppllkjibfjcaa
open Go.Sh Go.Maps Go.RowKit
set_option linter.unusedVariables false
set_option maxRecDepth 100000
theorem open_acts {H : Type} {enc : TypeId × Value → H} {w : World} {v : Value} {d : DataW H} {ps : List MemPlace} {r : Reach} {b0 : Nat} (hval : Value.okWide Try.prog w r b0 41 v) (hd : DataW.Trod enc Try.prog w 0 (fun _ => true) true 41 v d ps) :
    ∃ (p : Option Addr) (c : Nat) (l : List AV), v = .slice p l.length c ∧ actsAt w p l := by
  have hlv : leaves Try.prog 8 51 = some [(3, 0, 1), (3, 1, 1), (9, 2, 1), (30, 3, 1)] := by kernel_rfl
  obtain ⟨p, len, c, rfl, hp, hat⟩ := open_rows (e := 51) (by kernel_rfl) hlv (C := 4) (by kernel_rfl) hval hd
  have key : ∀ a, p = some a → ∀ j, j < len → ∃ x : AV, ActAt w (a.add (j * 4)) x := by
    intro a ha j hj
    obtain ⟨cs, hl, hc, hx⟩ := hat a ha j hj
    obtain ⟨k, hk, wk⟩ := leaf_int (k := .i64) (by kernel_rfl) (hx _ (.head _))
    obtain ⟨i, hi, wi⟩ := leaf_int (k := .i64) (by kernel_rfl) (hx _ (.tail _ (.head _)))
    obtain ⟨s, hs, ws⟩ := leaf_str (by kernel_rfl) (hx _ (.tail _ (.tail _ (.head _))))
    obtain ⟨q, qc, kl, hq, hq1, hq2⟩ := leaf_u8s (e := 5) (by kernel_rfl) (by kernel_rfl) (by kernel_rfl) (hx _ (.tail _ (.tail _ (.tail _ (.head _)))))
    exact ⟨⟨k, i, s, q, qc, kl⟩, hc 0 _ hk, hc 1 _ hi, hc 2 _ hs, hc 3 _ hq, ⟨hq1, hq2⟩, (i64_of wi).2⟩
  cases p with
  | none =>
    have : len = 0 := by
      cases len with
      | zero => rfl
      | succ n => obtain ⟨a, ha⟩ := hp (by omega); cases ha
    subst this
    exact ⟨none, c, [], rfl, fun h => absurd rfl h, fun a ha => by cases ha⟩
  | some a =>
    obtain ⟨l, hl, hq⟩ := list_choice (Q := fun j x => ActAt w (a.add (j * 4)) x) len (key a rfl)
    refine ⟨some a, c, l, by rw [hl], fun _ => ⟨a, rfl⟩, fun a' ha' j x hx => ?_⟩
    cases ha'
    exact hq j x hx
end Go.Proofs.Ytdppllkjibfjcaa
