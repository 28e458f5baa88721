/- Proved here, each for all its inputs and with no condition: DriveDead. -/
import Derived.Test.YtdppllkjibfjcaaLd8
import Derived.Test.YtdppllkjibfjcaaRow
import Derived.Test.YtdppllkjibfjcaaRows
namespace Go.Proofs.Ytdppllkjibfjcaa
set_option linter.unusedVariables false

namespace driveDead
open Go.ChangeShapes Go.WideShapes Go.ChangeAt Go.RowKit Go.Sh Go.Joins Go.Deep
set_option maxRecDepth 100000 in
theorem lifted (os : Os) (started : os.Started) (H : Type) (enc : TypeId × Value → H) :
    ReturnsInHanded {} Try.checked os 7 .any (Rows.driveDeadSpec.pre6 enc Try.prog Try.f7 Rows.driveDeadRow.domain false) (Rows.driveDeadSpec.post enc Try.prog Try.f7 false true false false) := by
  refine returnsInHanded_of_change (C := Try.checked) own started (by kernel_rfl) Try.func7
    (ChangeSpec.witness6 (enc := enc) (C := Try.checked) false ⟨#[], #[.string (ByteArray.mk #[]), .int .i64 0, .slice none 0 0], []⟩ 8 (by kernel_rfl) (by kernel_rfl) (by kernel_rfl) (by kernel_rfl)) ?_
  intro W base args ds gs before hval0 hW hcnd _
  have hval : ∀ (j : Nat) t v, Try.f7.params[j]? = some t → args[j]? = some v → Value.okWide Try.prog W .any base t v := hval0
  have hW' := hW
  obtain ⟨p, q, hA0, hV, hbef, hfz, hnd⟩ := hW
  have hA : DataW.TrodAll enc Try.prog W 0 (fun _ => true) true Try.f7.params.toList args.toList ds p := hA0
  rw [Try.params7] at hA hval
  obtain ⟨v0, vs0, d0, ds0, q0, z0, hargs, rfl, _, h0, r0⟩ := trodAll_cons hA
  obtain ⟨v1, vs1, d1, ds1, q1, z1, rfl, rfl, _, h1, r1⟩ := trodAll_cons r0
  obtain ⟨v2, vs2, d2, ds2, q2, z2, rfl, rfl, _, h2, r2⟩ := trodAll_cons r1
  obtain ⟨rfl, rfl, _⟩ := trodAll_nil r2
  obtain rfl : args = #[v0, v1, v2] := by cases args; simp_all
  obtain ⟨rfl, _⟩ := trodVars_none hV
  clear hA0 hval0
  obtain ⟨s0, rfl, rfl, rfl, k0⟩ := Go.ChangeMaps.open_string (by kernel_rfl) (hval 0 9 v0 rfl rfl) h0
  obtain ⟨a1, rfl, rfl, rfl, w1⟩ := open_int (k := .i64) (by kernel_rfl) (hval 1 3 v1 rfl rfl) h1
  obtain ⟨p2, c2, l2, rfl, H2⟩ := open_acts (hval 2 41 v2 rfl rfl) h2
  refine Calls.mono (dead_law s0 a1 l2 p2 c2 W H2 : Ret Try.prog 7 _ W (.bool true)) fun e W' ⟨he, hg⟩ => ?_
  subst he
  exact ⟨_, rfl, law_post rows_laid rows_maps rows_full (by kernel_rfl) hW' rfl rfl rfl rfl rfl Try.underlying4 hg⟩
theorem over : Rows.driveDeadRow.holds Try.pinned (OpenSpec.ofChange Rows.driveDeadSpec) :=
  OpenClaim.holds_of_wide 7 Try.f7 rfl rfl rfl rfl rfl rfl rfl ⟨rfl, rfl, rfl, rfl, rfl⟩ rfl rfl rfl rfl rfl (by kernel_rfl) Try.func7 (by kernel_rfl)
    (of_decide_eq_true (by kernel_rfl)) (by unfold Func.isWrapper; first | (rw [if_pos (by decide +kernel)]; kernel_rfl) | (rw [if_neg (by decide +kernel)]; exact ⟨rfl, rfl⟩))
    (fun os started H enc _ => lifted os started H enc)
theorem proved : Rows.DriveDeadSaid := over
end driveDead
end Go.Proofs.Ytdppllkjibfjcaa
