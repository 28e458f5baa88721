/- Proved here, for all its inputs and with no condition: LayoutTells. -/
import Derived.Test.YtfnghfbggieagaaLaw2
import Derived.Test.YtfnghfbggieagaaPost
import Derived.Test.YtfnghfbggieagaaRows
import Derived.WalkKit
import Derived.ProofKit
import Derived.OpenShut
import Derived.Lib.SmallJoins
namespace Go.Proofs.Ytfnghfbggieagaa
set_option linter.unusedVariables false

namespace layoutTells
open Go.ChangeShapes Go.WideShapes Go.ChangeAt Go.RowKit Go.Sh Go.Joins Go.Deep

theorem own : ownKnob Try.prog.godebug = none := by kernel_rfl
theorem under : Try.prog.underlying 23 = some (.struct #[⟨"Cols", 3, 0, false, "", "", 0⟩, ⟨"Chunk", 3, 1, false, "", "", 8⟩, ⟨"Rows", 3, 2, false, "", "", 16⟩]) := by kernel_rfl
theorem ones : oneCellFields Try.prog #[⟨"Cols", 3, 0, false, "", "", 0⟩, ⟨"Chunk", 3, 1, false, "", "", 8⟩, ⟨"Rows", 3, 2, false, "", "", 16⟩] = true := by kernel_rfl
theorem cells : Try.prog.cellsOf 23 = 3 := by kernel_rfl
theorem walk (c k r a1 a2 a3 a4 : Int) (w4 : (Lit.int .i64 a4).wf = true) (w : World) :
    Ret Try.prog 8 #[.agg #[.int .i64 c, .int .i64 k, .int .i64 r], .int .i64 a1, .int .i64 a2, .int .i64 a3, .int .i64 a4] w (.bool true) := tells_spec c k r a1 a2 a3 a4 w (i64_of w4)
set_option maxRecDepth 100000 in
theorem lifted (os : Os) (started : os.Started) (H : Type) (enc : TypeId × Value → H) :
    ReturnsInHanded {} Try.checked os 8 .any (Rows.layoutTellsSpec.pre6 enc Try.prog Try.f8 Rows.layoutTellsRow.domain false) (Rows.layoutTellsSpec.post enc Try.prog Try.f8 false true false false) := by
  refine returnsInHanded_of_change (C := Try.checked) own started (by kernel_rfl) Try.func8
    (ChangeSpec.witness6 (enc := enc) (C := Try.checked) false ⟨#[], #[.agg #[.int .i64 0, .int .i64 0, .int .i64 0], .int .i64 0, .int .i64 0, .int .i64 0, .int .i64 0], []⟩ 8 (by kernel_rfl) (by kernel_rfl) (by kernel_rfl) (by kernel_rfl)) ?_
  intro W base args ds gs before hval0 hW hcnd _
  have hval : ∀ (j : Nat) t v, Try.f8.params[j]? = some t → args[j]? = some v → Value.okWide Try.prog W .any base t v := hval0
  have hW' := hW
  obtain ⟨p, q, hA0, hV, rfl, hfz, hnd⟩ := hW
  have hA : DataW.TrodAll enc Try.prog W 0 (fun _ => true) true Try.f8.params.toList args.toList ds p := hA0
  rw [Try.params8] at hA hval
  obtain ⟨v0, vs0, d0, ds0, p0, q0, hargs, rfl, rfl, h0, r0⟩ := trodAll_cons hA
  obtain ⟨v1, vs1, d1, ds1, p1, q1, rfl, rfl, rfl, h1, r1⟩ := trodAll_cons r0
  obtain ⟨v2, vs2, d2, ds2, p2, q2, rfl, rfl, rfl, h2, r2⟩ := trodAll_cons r1
  obtain ⟨v3, vs3, d3, ds3, p3, q3, rfl, rfl, rfl, h3, r3⟩ := trodAll_cons r2
  obtain ⟨v4, vs4, d4, ds4, p4, q4, rfl, rfl, rfl, h4, r4⟩ := trodAll_cons r3
  obtain ⟨rfl, rfl, rfl⟩ := trodAll_nil r4
  obtain rfl : args = #[v0, v1, v2, v3, v4] := by cases args; simp_all
  obtain ⟨rfl, rfl⟩ := trodVars_none hV
  obtain ⟨x0, x1, x2, y0, y1, y2, n, rfl, rfl, rfl, t0, t1, t2⟩ := open_agg3 under ones cells (hval 0 23 v0 rfl rfl) h0
  obtain ⟨c, e0, rfl, wc⟩ := DataW.trod_int Try.underlying3 t0
  obtain ⟨k, e1, rfl, wk⟩ := DataW.trod_int Try.underlying3 t1
  obtain ⟨r, e2, rfl, wr⟩ := DataW.trod_int Try.underlying3 t2
  obtain rfl : x0 = .int .i64 c := by simpa using e0
  obtain rfl : x1 = .int .i64 k := by simpa using e1
  obtain rfl : x2 = .int .i64 r := by simpa using e2
  obtain ⟨a1, rfl, rfl, rfl, w1⟩ := open_int Try.underlying3 (hval 1 3 v1 rfl rfl) h1
  obtain ⟨a2, rfl, rfl, rfl, w2⟩ := open_int Try.underlying3 (hval 2 3 v2 rfl rfl) h2
  obtain ⟨a3, rfl, rfl, rfl, w3⟩ := open_int Try.underlying3 (hval 3 3 v3 rfl rfl) h3
  obtain ⟨a4, rfl, rfl, rfl, w4⟩ := open_int Try.underlying3 (hval 4 3 v4 rfl rfl) h4
  clear hA0 hval0
  simp only [List.append_nil] at hW'
  refine (walk c k r a1 a2 a3 a4 w4 W).mono fun e W' ⟨he, hg⟩ => ?_
  subst he
  have shut : ∀ sp : Nat → Bool, DataW.Trod enc Try.prog W' 0 sp true 23 (.agg #[.int .i64 c, .int .i64 k, .int .i64 r]) (.agg [.lit (.int .i64 c), .lit (.int .i64 k), .lit (.int .i64 r)]) [] := fun sp =>
    shut_agg3 under ones cells ⟨1, trod_int_mk 0 Try.underlying3 wc⟩ ⟨1, trod_int_mk 0 Try.underlying3 wk⟩ ⟨1, trod_int_mk 0 Try.underlying3 wr⟩
  exact ⟨_, rfl, post_ext (pa := []) (pv := []) hW' (fun _ _ _ => (trodAll_cons_mk (shut_bool Try.underlying4 _) trodAll_mk0)) (fun sp _ => (trodAll_cons_mk (shut sp) (trodAll_cons_mk (shut_int Try.underlying3 w1) (trodAll_cons_mk (shut_int Try.underlying3 w2) (trodAll_cons_mk (shut_int Try.underlying3 w3) (trodAll_cons_mk (shut_int Try.underlying3 w4) trodAll_mk0)))))) (fun _ _ => rfl) rfl
    hg (ok_one (by kernel_rfl) rfl (okWide_bool_mk Try.underlying4 _))⟩

theorem over : Rows.layoutTellsRow.holds Try.pinned (OpenSpec.ofChange Rows.layoutTellsSpec) :=
  OpenClaim.holds_of_wide 8 Try.f8 rfl rfl rfl rfl rfl rfl rfl ⟨rfl, rfl, rfl, rfl, rfl⟩ rfl rfl rfl rfl rfl (by kernel_rfl) Try.func8 (by kernel_rfl)
    (of_decide_eq_true (by kernel_rfl)) (by unfold Func.isWrapper; first | (rw [if_pos (by decide +kernel)]; kernel_rfl) | (rw [if_neg (by decide +kernel)]; exact ⟨rfl, rfl⟩))
    (fun os started H enc _ => lifted os started H enc)

theorem proved : Rows.LayoutTellsSaid :=
  over
end layoutTells
end Go.Proofs.Ytfnghfbggieagaa
