/- Proved here, each for all its inputs and with no condition: PagesJoined. -/
import Derived.Test.YtmipjkalfodcpaaDoorM12
import Derived.Test.YtmipjkalfodcpaaDoorRows
import Derived.Test.YtmipjkalfodcpaaDoorCards
import Derived.Test.YtmipjkalfodcpaaDoorTie
import Derived.Lay
import Derived.SevenTiedAt
import Derived.LaidMore
import Derived.Stop.Joined
namespace Go.Proofs.YtmipjkalfodcpaaDoor
set_option linter.unusedVariables false

namespace pagesJoined
open Go.ChangeShapes Go.WideShapes Go.ChangeAt Go.RowKit Go.Sh Go.Joins Go.Deep
set_option maxRecDepth 100000 in
theorem lifted (os : Os) (started : os.Started) (H : Type) (enc : TypeId × Value → H) :
    ReturnsInHanded {} Tryd.checked os 4 .any (fun w args => (Rows.pagesJoinedSpec.pre enc Tryd.prog Tryd.f4 Rows.pagesJoinedRow.domain false w args ∧ laidMetH Tryd.prog Rows.pagesJoinedRow.laid w) ∧ sizedMet enc Tryd.prog Tryd.f4 (OpenSpec.ofChange Rows.pagesJoinedSpec) false w args) (Rows.pagesJoinedSpec.post enc Tryd.prog Tryd.f4 false true false false) := by
  refine returnsInHanded_of_change_and (C := Tryd.checked) (X := fun w _ => laidMetH Tryd.prog Rows.pagesJoinedRow.laid w) (fun _ _ _ hh h => h.of_heap hh) own started (by kernel_rfl) Tryd.func4
    (ChangeSpec.witness_shaped (enc := enc) (C := Tryd.checked) (os := os) (X := fun w _ => laidMetH Tryd.prog Rows.pagesJoinedRow.laid w) false (World.laidAll Tryd.prog os Rows.pagesJoinedRow.laid) #[.slice none 0 0, .slice none 0 0, .int .u64 0, .int .u8 0] 8 (World.laidAll_os _ _ _)
      (World.shaped_of_ZipB (by kernel_rfl) (by kernel_rfl)) (by kernel_rfl) (by kernel_rfl) (by kernel_rfl)
      (by rw [MakeChecks.laidMetH_plain _ _ _ (by kernel_rfl)]; exact laidMet_laidAll _ (by kernel_rfl) (by kernel_rfl))) ?_
  intro W base args ds gs before hval0 hW hcnd _ _ _
  have hval : ∀ (j : Nat) t v, Tryd.f4.params[j]? = some t → args[j]? = some v → Value.okWide Tryd.prog W .any base t v := hval0
  have hW' := hW
  obtain ⟨p, q, hA0, hV, hbef, hfz, hnd⟩ := hW
  have hA : DataW.TrodAll enc Tryd.prog W 0 (fun _ => true) true Tryd.f4.params.toList args.toList ds p := hA0
  rw [Tryd.params4] at hA hval
  obtain ⟨v0, vs0, d0, ds0, q0, z0, hargs, rfl, _, h0, r0⟩ := trodAll_cons hA
  obtain ⟨v1, vs1, d1, ds1, q1, z1, rfl, rfl, _, h1, r1⟩ := trodAll_cons r0
  obtain ⟨v2, vs2, d2, ds2, q2, z2, rfl, rfl, _, h2, r2⟩ := trodAll_cons r1
  obtain ⟨v3, vs3, d3, ds3, q3, z3, rfl, rfl, _, h3, r3⟩ := trodAll_cons r2
  obtain ⟨rfl, rfl, _⟩ := trodAll_nil r3
  obtain rfl : args = #[v0, v1, v2, v3] := by cases args; simp_all
  obtain ⟨rfl, _⟩ := trodVars_none hV
  clear hA0 hval0
  obtain ⟨p0, c0, l0, rfl, H0a, H0b, k0⟩ := open_strs (e := 9) (by kernel_rfl) (by kernel_rfl) (by kernel_rfl) (hval 0 36 v0 rfl rfl) h0
  have H0 := And.intro H0a H0b
  obtain ⟨p1, c1, l1, rfl, H1a, H1b, k1⟩ := open_u64s (e := 22) (by kernel_rfl) (by kernel_rfl) (by kernel_rfl) (hval 1 37 v1 rfl rfl) h1
  have H1 := And.intro H1a H1b
  obtain ⟨a2, rfl, rfl, rfl, w2⟩ := open_int (k := .u64) (by kernel_rfl) (hval 2 22 v2 rfl rfl) h2
  obtain ⟨a3, rfl, rfl, rfl, w3⟩ := open_int (k := .u8) (by kernel_rfl) (hval 3 5 v3 rfl rfl) h3
  refine Calls.mono (joinP_law H0 H1 k1 (wf64 w2) (u8_of w3) : Ret Tryd.prog 4 _ W (.bool true)) fun e W' ⟨he, hg⟩ => ?_
  subst he
  exact ⟨_, rfl, law_post rows_laid rows_maps rows_full (by kernel_rfl) hW' rfl rfl rfl rfl rfl Tryd.underlying4 hg⟩
theorem over : Rows.pagesJoinedRow.holds Tryd.pinned (OpenSpec.ofChange Rows.pagesJoinedSpec) :=
  OpenClaim.holds_of_wide 4 Tryd.f4 rfl rfl rfl rfl rfl rfl rfl ⟨rfl, rfl, rfl, rfl, rfl⟩ rfl rfl rfl rfl rfl (by kernel_rfl) Tryd.func4 (by kernel_rfl)
    (of_decide_eq_true (by kernel_rfl)) (by unfold Func.isWrapper; first | (rw [if_pos (by decide +kernel)]; kernel_rfl) | (rw [if_neg (by decide +kernel)]; exact ⟨rfl, rfl⟩))
    (fun os started H enc _ => lifted os started H enc)
theorem proved : Rows.PagesJoinedCardSaid :=
  Claim7.holds_tied_plain_at .later [] [.data, .pinned] true (true, "22ea3f7816733fad64187df193e62a64cddccbc2d7694411b665347613c3b3a2") false over (fun _ h => by cases h) (by kernel_rfl) (fun _ h => by cases h) pagesJoined_row_tie rfl ⟨rfl, rfl⟩ (by kernel_rfl) rfl
    (fun f fn hf hfn => by
      obtain rfl : f = 4 := Option.some.inj ((show Tryd.prog.funcNamed "revetment/revetmentlaw11.PagesJoined" = some 4 by kernel_rfl).symm.trans hf) |>.symm
      obtain rfl : fn = Tryd.f4 := (Option.some.inj (Tryd.func4.symm.trans hfn)).symm
      exact ⟨by kernel_rfl, fun j t ht => by
        rw [Tryd.params4] at ht
        have hm : t ∈ [36, 37, 22, 5] := by simpa using Array.mem_of_getElem? ht
        have hall : ([36, 37, 22, 5].all fun u => !Tryd.prog.wantsStandIn u) = true := by kernel_rfl
        exact (show Tryd.prog.wantsStandIn t = false by simpa using List.all_eq_true.1 hall t hm)⟩)
    (by kernel_rfl)
end pagesJoined
end Go.Proofs.YtmipjkalfodcpaaDoor
