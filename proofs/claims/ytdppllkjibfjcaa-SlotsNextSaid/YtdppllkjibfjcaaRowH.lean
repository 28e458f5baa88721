/- Proved here, each for all its inputs and with no condition: SlotsNext. -/
import Derived.Test.YtdppllkjibfjcaaSo8
import Derived.Test.YtdppllkjibfjcaaRow3
import Derived.Test.YtdppllkjibfjcaaRow
import Derived.Test.YtdppllkjibfjcaaRows
namespace Go.Proofs.Ytdppllkjibfjcaa
set_option linter.unusedVariables false

namespace slotsNext
open Go.ChangeShapes Go.WideShapes Go.ChangeAt Go.RowKit Go.Sh Go.Joins Go.Deep
set_option maxRecDepth 100000 in
theorem lifted (os : Os) (started : os.Started) (H : Type) (enc : TypeId × Value → H) :
    ReturnsInHanded {} Try.checked os 10 .any (Rows.slotsNextSpec.pre6 enc Try.prog Try.f10 Rows.slotsNextRow.domain false) (Rows.slotsNextSpec.post enc Try.prog Try.f10 false true false false) := by
  refine returnsInHanded_of_change (C := Try.checked) own started (by kernel_rfl) Try.func10
    (ChangeSpec.witness6 (enc := enc) (C := Try.checked) false ⟨#[], #[.int .u64 0, .int .u64 0, .slice none 0 0, .bool false], []⟩ 8 (by kernel_rfl) (by kernel_rfl) (by kernel_rfl) (by kernel_rfl)) ?_
  intro W base args ds gs before hval0 hW hcnd _
  have hval : ∀ (j : Nat) t v, Try.f10.params[j]? = some t → args[j]? = some v → Value.okWide Try.prog W .any base t v := hval0
  have hW' := hW
  obtain ⟨p, q, hA0, hV, hbef, hfz, hnd⟩ := hW
  have hA : DataW.TrodAll enc Try.prog W 0 (fun _ => true) true Try.f10.params.toList args.toList ds p := hA0
  rw [Try.params10] at hA hval
  obtain ⟨v0, vs0, d0, ds0, q0, z0, hargs, rfl, _, h0, r0⟩ := trodAll_cons hA
  obtain ⟨v1, vs1, d1, ds1, q1, z1, rfl, rfl, _, h1, r1⟩ := trodAll_cons r0
  obtain ⟨v2, vs2, d2, ds2, q2, z2, rfl, rfl, _, h2, r2⟩ := trodAll_cons r1
  obtain ⟨v3, vs3, d3, ds3, q3, z3, rfl, rfl, _, h3, r3⟩ := trodAll_cons r2
  obtain ⟨rfl, rfl, _⟩ := trodAll_nil r3
  obtain rfl : args = #[v0, v1, v2, v3] := by cases args; simp_all
  obtain ⟨rfl, _⟩ := trodVars_none hV
  clear hA0 hval0
  obtain ⟨a0, rfl, rfl, rfl, w0⟩ := open_int (k := .u64) (by kernel_rfl) (hval 0 53 v0 rfl rfl) h0
  obtain ⟨a1, rfl, rfl, rfl, w1⟩ := open_int (k := .u64) (by kernel_rfl) (hval 1 53 v1 rfl rfl) h1
  obtain ⟨p2, c2, l2, rfl, H2a, H2b⟩ := open_u8s (e := 5) (by kernel_rfl) (by kernel_rfl) (by kernel_rfl) (hval 2 30 v2 rfl rfl) h2
  have H2 := And.intro H2a H2b
  obtain ⟨b3, rfl, rfl, rfl⟩ := open_bool (by kernel_rfl) (hval 3 4 v3 rfl rfl) h3
  refine Calls.mono (next_law (u64_of w0) (u64_of w1) l2 p2 c2 b3 W H2 : Ret Try.prog 10 _ W (.bool true)) fun e W' ⟨he, hg⟩ => ?_
  subst he
  exact ⟨_, rfl, law_post rows_laid rows_maps rows_full (by kernel_rfl) hW' rfl rfl rfl rfl rfl Try.underlying4 hg⟩
theorem over : Rows.slotsNextRow.holds Try.pinned (OpenSpec.ofChange Rows.slotsNextSpec) :=
  OpenClaim.holds_of_wide 10 Try.f10 rfl rfl rfl rfl rfl rfl rfl ⟨rfl, rfl, rfl, rfl, rfl⟩ rfl rfl rfl rfl rfl (by kernel_rfl) Try.func10 (by kernel_rfl)
    (of_decide_eq_true (by kernel_rfl)) (by unfold Func.isWrapper; first | (rw [if_pos (by decide +kernel)]; kernel_rfl) | (rw [if_neg (by decide +kernel)]; exact ⟨rfl, rfl⟩))
    (fun os started H enc _ => lifted os started H enc)
theorem proved : Rows.SlotsNextSaid := over
end slotsNext
end Go.Proofs.Ytdppllkjibfjcaa
