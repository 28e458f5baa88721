/- Proved here, each for all its inputs and with no condition: StripeReads. -/
import Derived.Test.YtkknkmplmilihaaGreatD21
import Derived.Test.YtkknkmplmilihaaGreatRows
namespace Go.Proofs.YtkknkmplmilihaaGreat
set_option linter.unusedVariables false
namespace stripeReads
open Go.ChangeShapes Go.WideShapes Go.ChangeAt Go.RowKit Go.Sh Go.Joins Go.Deep
set_option maxRecDepth 100000 in
theorem lifted (os:Os) (started:os.Started) (H:Type) (enc:TypeId×Value→H):
  ReturnsInHanded {} Tryz.checked os 3 .any (Rows.stripeReadsSpec.pre6 enc Tryz.prog Tryz.f3 Rows.stripeReadsRow.domain false) (Rows.stripeReadsSpec.post enc Tryz.prog Tryz.f3 false true false false):=by
 refine returnsInHanded_of_change (C:=Tryz.checked) own started (by kernel_rfl) Tryz.func3
  (ChangeSpec.witness6 (enc:=enc) (C:=Tryz.checked) false ⟨#[],#[.int .u8 0,.int .u8 0,.int .u8 0,.int .u8 0,.int .u8 0,.bool false,.slice none 0 0,.slice none 0 0],[]⟩ 8 (by kernel_rfl) (by kernel_rfl) (by kernel_rfl) (by kernel_rfl)) ?_
 intro W base args ds gs before hval0 hW hcnd _
 have hval:∀(j:Nat) t v,Tryz.f3.params[j]?=some t→args[j]?=some v→Value.okWide Tryz.prog W .any base t v:=hval0
 have hW':=hW
 obtain⟨p,q,hA0,hV,hbef,hfz,hnd⟩:=hW
 have hA:DataW.TrodAll enc Tryz.prog W 0 (fun _=>true) true Tryz.f3.params.toList args.toList ds p:=hA0
 rw[Tryz.params3]at hA hval
 obtain⟨v0,vs0,d0,ds0,q0,z0,hargs,rfl,_,h0,r0⟩:=trodAll_cons hA
 obtain⟨v1,vs1,d1,ds1,q1,z1,rfl,rfl,_,h1,r1⟩:=trodAll_cons r0
 obtain⟨v2,vs2,d2,ds2,q2,z2,rfl,rfl,_,h2,r2⟩:=trodAll_cons r1
 obtain⟨v3,vs3,d3,ds3,q3,z3,rfl,rfl,_,h3,r3⟩:=trodAll_cons r2
 obtain⟨v4,vs4,d4,ds4,q4,z4,rfl,rfl,_,h4,r4⟩:=trodAll_cons r3
 obtain⟨v5,vs5,d5,ds5,q5,z5,rfl,rfl,_,h5,r5⟩:=trodAll_cons r4
 obtain⟨v6,vs6,d6,ds6,q6,z6,rfl,rfl,_,h6,r6⟩:=trodAll_cons r5
 obtain⟨v7,vs7,d7,ds7,q7,z7,rfl,rfl,_,h7,r7⟩:=trodAll_cons r6
 obtain⟨rfl,rfl,_⟩:=trodAll_nil r7
 obtain rfl:args=#[v0,v1,v2,v3,v4,v5,v6,v7]:=by cases args; simp_all
 obtain⟨rfl,_⟩:=trodVars_none hV
 clear hA0 hval0
 obtain⟨a0,rfl,rfl,rfl,w0⟩:=open_int (k:=.u8) (by kernel_rfl) (hval 0 5 v0 rfl rfl) h0
 obtain⟨a1,rfl,rfl,rfl,w1⟩:=open_int (k:=.u8) (by kernel_rfl) (hval 1 5 v1 rfl rfl) h1
 obtain⟨a2,rfl,rfl,rfl,w2⟩:=open_int (k:=.u8) (by kernel_rfl) (hval 2 5 v2 rfl rfl) h2
 obtain⟨a3,rfl,rfl,rfl,w3⟩:=open_int (k:=.u8) (by kernel_rfl) (hval 3 5 v3 rfl rfl) h3
 obtain⟨a4,rfl,rfl,rfl,w4⟩:=open_int (k:=.u8) (by kernel_rfl) (hval 4 5 v4 rfl rfl) h4
 obtain⟨b5,rfl,rfl,rfl⟩:=open_bool (by kernel_rfl) (hval 5 4 v5 rfl rfl) h5
 obtain⟨p6,c6,l6,rfl,H6⟩:=open_changes (hval 6 22 v6 rfl rfl) h6
 obtain⟨p7,c7,l7,rfl,H7⟩:=open_changes (hval 7 22 v7 rfl rfl) h7
 refine Calls.mono (reads17_law (by have:=u8_of w0; omega) (by have:=u8_of w1; omega) (by have:=u8_of w2; omega) (by have:=u8_of w3; omega) (by have:=u8_of w4; omega) b5 H6.1 H6.2 H7.1 H7.2:Ret Tryz.prog 3 _ W (.bool true)) fun e W' ⟨he,hg⟩=>?_
 subst he
 exact⟨_,rfl,law_post rows_laid rows_maps rows_full (by kernel_rfl) hW' rfl rfl rfl rfl rfl Tryz.underlying4 hg⟩
theorem fits:joinedFacts Tryz.pinned.checked.prog 3 Tryz.f3 Rows.stripeReadsSpec Rows.stripeReadsRow=true:=by kernel_rfl
theorem over:Rows.stripeReadsRow.holds Tryz.pinned (OpenSpec.ofChange Rows.stripeReadsSpec):=
 OpenClaim.holds_of_wide 3 Tryz.f3 rfl rfl rfl rfl rfl rfl rfl ⟨rfl,rfl,rfl,rfl,rfl⟩ rfl rfl rfl rfl rfl (by kernel_rfl) Tryz.func3 fits
  (of_decide_eq_true (by kernel_rfl)) (by unfold Func.isWrapper; first|(rw[if_pos (by decide +kernel)]; kernel_rfl)|(rw[if_neg (by decide +kernel)]; exact⟨rfl,rfl⟩))
  (fun os started H enc _=>lifted os started H enc)
theorem proved:Rows.StripeReadsSaid:=over
end stripeReads
end Go.Proofs.YtkknkmplmilihaaGreat
