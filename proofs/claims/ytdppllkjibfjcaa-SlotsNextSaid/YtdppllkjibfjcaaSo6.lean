import Derived.Test.YtdppllkjibfjcaaSo5
/-! slots: SlotsCrash. -/
namespace Go.Proofs.Ytdppllkjibfjcaa
open Go.Sh Go.RowKit
set_option linter.unusedVariables false
set_option linter.unusedSimpArgs false
set_option maxRecDepth 20000
set_option maxHeartbeats 1000000
theorem mod60 {e : Int} (h : 0 ≤ e ∧ e < 18446744073709551616) : 0 ≤ Int.tmod e 1152921504606846976 ∧ Int.tmod e 1152921504606846976 < 1152921504606846976 := by
  rw [Int.tmod_eq_emod_of_nonneg (by omega)]; omega
theorem crash_load {u at_ r0 r1 : Int} (hu : 0 ≤ u ∧ u < 18446744073709551616) (ha : 0 ≤ at_ ∧ at_ < 1152921504606846976) (q : Bool) {f : Nat → ByteArray}
    (hf : f = fun j => if j = ((at_ + 1) % 2).toNat ∧ q = true then strB (encS (someS u (at_ + 1) r1)) else if j = ((someS u at_ r0).events % 2).toNat then strB (encS (someS u at_ r0)) else zeroSec) :
    ∃ s0 b0 s1 b1 s, Cont (f 0) s0 b0 ∧ Cont (f 1) s1 b1 ∧ loadS s0 b0 s1 b1 = (s, 0) ∧ (s = someS u at_ r0 ∨ s = someS u (at_ + 1) r1) := by
  have mA : MayS (someS u at_ r0) := someS_may hu (by omega)
  have mB : MayS (someS u (at_ + 1) r1) := someS_may hu (by omega)
  have eA : (someS u at_ r0).events = at_ := rfl
  have eB : (someS u (at_ + 1) r1).events = at_ + 1 := rfl
  subst hf
  rw [eA]
  have hp : at_ % 2 = 0 ∨ at_ % 2 = 1 := by omega
  rcases hp with hp | hp
  · have h1 : ((at_ + 1) % 2).toNat = 1 := by omega
    have h0 : (at_ % 2).toNat = 0 := by omega
    rw [h1, h0]
    cases q
    · exact ⟨_, true, sup0, false, someS u at_ r0, by simpa using cont_enc mA, by simpa using cont_zero, rfl, .inl rfl⟩
    · refine ⟨someS u at_ r0, true, someS u (at_ + 1) r1, true, someS u (at_ + 1) r1, by simpa using cont_enc mA, by simpa using cont_enc mB, ?_, .inr rfl⟩
      have : newerS (someS u at_ r0) true (someS u (at_ + 1) r1) true = true := by
        unfold newerS
        rw [eA, eB, decide_eq_true (by omega)]; rfl
      unfold loadS
      rw [if_pos this]
  · have h1 : ((at_ + 1) % 2).toNat = 0 := by omega
    have h0 : (at_ % 2).toNat = 1 := by omega
    rw [h1, h0]
    cases q
    · exact ⟨sup0, false, _, true, someS u at_ r0, by simpa using cont_zero, by simpa using cont_enc mA, rfl, .inl rfl⟩
    · refine ⟨someS u (at_ + 1) r1, true, someS u at_ r0, true, someS u (at_ + 1) r1, by simpa using cont_enc mB, by simpa using cont_enc mA, ?_, .inr rfl⟩
      have : newerS (someS u (at_ + 1) r1) true (someS u at_ r0) true = false := by
        unfold newerS
        rw [eA, eB, decide_eq_false (by omega)]; rfl
      unfold loadS
      rw [this]; rfl
theorem crash_law {u e r0 r1 : Int} (hu : 0 ≤ u ∧ u < 18446744073709551616) (hev : 0 ≤ e ∧ e < 18446744073709551616) (hr0 : 0 ≤ r0 ∧ r0 < 256) (hr1 : 0 ≤ r1 ∧ r1 < 256) (l : List UInt8) (p : Option Addr) (c : Nat) (w : World) (hl : bytesAt w p l) :
    Ret Try.prog 9 #[.int .u64 u, .int .u64 e, .int .u8 r0, .int .u8 r1, .slice p l.length c] w (.bool true) := by
  refine ret_of (revetmentlaw09_SlotsCrash_calls ?_)
  unfold revetmentlaw09_SlotsCrash
  refine ⟨dec_t fun _ => sshown_end (.refl w), dec_f fun hlen => ?_⟩
  refine (sshown_spec w).mono fun e_ w2 ⟨he, hx2⟩ => ⟨_, he, no rfl ?_⟩
  refine new_u (n := 2) ((T.nil w).quiet hx2) (by omega) fun d w4 h4 => ⟨_, rfl, no rfl ?_⟩
  have hat := mod60 hev
  generalize Int.tmod e 1152921504606846976 = at_ at hat
  have hw1 : IntKind.u64.wrap (at_ + 1) = at_ + 1 := by rw [wrapU64]; omega
  have hw2 : IntKind.i64.wrap (Int.tmod (at_ + 1) 2) = (at_ + 1) % 2 := by
    rw [Int.tmod_eq_emod_of_nonneg (by omega), wrap64 _ (by omega) (by omega)]
  rw [hw1, hw2]
  have mA : MayS (someS u at_ r0) := someS_may hu (by omega)
  have mB : MayS (someS u (at_ + 1) r1) := someS_may hu (by omega)
  refine (some_spec (u := u) (e := at_) (r := r0) hr0 w4).mono fun e_ w5 ⟨he, hx5⟩ => ⟨_, _, _, _, _, _, _, _, _, _, he, ?_⟩
  refine saved_u (s := someS u at_ r0) (h4.quiet hx5) (hold_new 2) (by omega) mA fun a w6 h6 hh => ⟨_, rfl, no rfl ?_⟩
  refine (some_spec (u := u) (e := at_ + 1) (r := r1) hr1 w6).mono fun e_ w7 ⟨he, hx7⟩ => ⟨_, _, _, _, _, _, _, _, _, _, he, ?_⟩
  refine (sencode_spec mB w7).mono fun e_ w8 ⟨he, hx8⟩ => ⟨_, _, he, no rfl ?_⟩
  have hi : (at_ + 1) % 2 = ((((at_ + 1) % 2).toNat : Nat) : Int) := by omega
  refine write_u ((h6.quiet hx7).quiet hx8) (hh.few _) (hh.on.put (by omega) (encS_size _)) fun w9 h9 => ⟨_, rfl, no rfl ?_⟩
  refine (crash_a h9 (hh.few_write _ _) l p c (by omega) fun w1 hT => hl.ext hT.chg.ext).mono fun e_ w10 ⟨he, h10⟩ => ⟨he, ?_⟩
  rw [hi] at h10
  obtain ⟨q, hq⟩ := hh.crash (i := ((at_ + 1) % 2).toNat) (by omega) (encS_size (someS u (at_ + 1) r1)) l
  obtain ⟨s0, b0, s1, b1, s, hc0, hc1, hload, hs⟩ := crash_load (r0 := r0) (r1 := r1) hu hat q rfl
  refine load_u (s := s) (e := 0) h10 hq (by omega) hc0 hc1 hload fun w11 h11 => ⟨_, _, _, _, _, _, _, _, _, _, _, rfl, ?_⟩
  refine Alloc.t h11.under fun k w12 h12 => Go.Proofs.Ytdppllkjibfjcaa.st10 (a := sup0) (b := s) h12 fun w13 h13 => ?_
  refine ⟨fun w' => T [] w w' [blk k (supC s) 58], h13.drew, yes rfl (rd10D (a := s) (t := 58) (fun w' hd => ⟨_, _, _, hd, (by first | exact List.Mem.head _ | exact List.Mem.tail _ (List.Mem.head _) | exact List.Mem.tail _ (List.Mem.tail _ (List.Mem.head _)) | exact List.Mem.tail _ (List.Mem.tail _ (List.Mem.tail _ (List.Mem.head _))) | exact List.Mem.tail _ (List.Mem.tail _ (List.Mem.tail _ (List.Mem.tail _ (List.Mem.head _)))) | exact List.Mem.tail _ (List.Mem.tail _ (List.Mem.tail _ (List.Mem.tail _ (List.Mem.tail _ (List.Mem.head _))))) | exact List.Mem.tail _ (List.Mem.tail _ (List.Mem.tail _ (List.Mem.tail _ (List.Mem.tail _ (List.Mem.tail _ (List.Mem.head _)))))) | exact List.Mem.tail _ (List.Mem.tail _ (List.Mem.tail _ (List.Mem.tail _ (List.Mem.tail _ (List.Mem.tail _ (List.Mem.tail _ (List.Mem.head _))))))) | exact List.Mem.tail _ (List.Mem.tail _ (List.Mem.tail _ (List.Mem.tail _ (List.Mem.tail _ (List.Mem.tail _ (List.Mem.tail _ (List.Mem.tail _ (List.Mem.head _)))))))) | exact List.Mem.tail _ (List.Mem.tail _ (List.Mem.tail _ (List.Mem.tail _ (List.Mem.tail _ (List.Mem.tail _ (List.Mem.tail _ (List.Mem.tail _ (List.Mem.tail _ (List.Mem.head _))))))))) | exact List.Mem.tail _ (List.Mem.tail _ (List.Mem.tail _ (List.Mem.tail _ (List.Mem.tail _ (List.Mem.tail _ (List.Mem.tail _ (List.Mem.tail _ (List.Mem.tail _ (List.Mem.tail _ (List.Mem.head _)))))))))) | exact List.Mem.tail _ (List.Mem.tail _ (List.Mem.tail _ (List.Mem.tail _ (List.Mem.tail _ (List.Mem.tail _ (List.Mem.tail _ (List.Mem.tail _ (List.Mem.tail _ (List.Mem.tail _ (List.Mem.tail _ (List.Mem.head _))))))))))))⟩) ?_)⟩
  refine (some_spec (u := u) (e := at_) (r := r0) hr0 _).mono fun e_ w14 ⟨he, hx14⟩ => ⟨_, _, _, _, _, _, _, _, _, _, he, ?_⟩
  have h14 := h13.drew.quiet hx14
  refine ⟨h14, decide (s = someS u at_ r0), fun w' _ => eql_sup s (someS u at_ r0) _ _ w', fun _ => ⟨rfl, h14.chg.ext⟩, fun hne => rd10D (a := s) (t := 58) (fun w' hd => ⟨_, _, _, hd, (by first | exact List.Mem.head _ | exact List.Mem.tail _ (List.Mem.head _) | exact List.Mem.tail _ (List.Mem.tail _ (List.Mem.head _)) | exact List.Mem.tail _ (List.Mem.tail _ (List.Mem.tail _ (List.Mem.head _))) | exact List.Mem.tail _ (List.Mem.tail _ (List.Mem.tail _ (List.Mem.tail _ (List.Mem.head _)))) | exact List.Mem.tail _ (List.Mem.tail _ (List.Mem.tail _ (List.Mem.tail _ (List.Mem.tail _ (List.Mem.head _))))) | exact List.Mem.tail _ (List.Mem.tail _ (List.Mem.tail _ (List.Mem.tail _ (List.Mem.tail _ (List.Mem.tail _ (List.Mem.head _)))))) | exact List.Mem.tail _ (List.Mem.tail _ (List.Mem.tail _ (List.Mem.tail _ (List.Mem.tail _ (List.Mem.tail _ (List.Mem.tail _ (List.Mem.head _))))))) | exact List.Mem.tail _ (List.Mem.tail _ (List.Mem.tail _ (List.Mem.tail _ (List.Mem.tail _ (List.Mem.tail _ (List.Mem.tail _ (List.Mem.tail _ (List.Mem.head _)))))))) | exact List.Mem.tail _ (List.Mem.tail _ (List.Mem.tail _ (List.Mem.tail _ (List.Mem.tail _ (List.Mem.tail _ (List.Mem.tail _ (List.Mem.tail _ (List.Mem.tail _ (List.Mem.head _))))))))) | exact List.Mem.tail _ (List.Mem.tail _ (List.Mem.tail _ (List.Mem.tail _ (List.Mem.tail _ (List.Mem.tail _ (List.Mem.tail _ (List.Mem.tail _ (List.Mem.tail _ (List.Mem.tail _ (List.Mem.head _)))))))))) | exact List.Mem.tail _ (List.Mem.tail _ (List.Mem.tail _ (List.Mem.tail _ (List.Mem.tail _ (List.Mem.tail _ (List.Mem.tail _ (List.Mem.tail _ (List.Mem.tail _ (List.Mem.tail _ (List.Mem.tail _ (List.Mem.head _))))))))))))⟩) ?_⟩
  refine (some_spec (u := u) (e := at_ + 1) (r := r1) hr1 _).mono fun e_ w15 ⟨he, hx15⟩ => ⟨_, _, _, _, _, _, _, _, _, _, he, ?_⟩
  have h15 := h14.quiet hx15
  have hsB : s = someS u (at_ + 1) r1 := hs.resolve_left (of_decide_eq_false hne)
  refine ⟨h15, decide (s = someS u (at_ + 1) r1), fun w' _ => eql_sup s (someS u (at_ + 1) r1) _ _ w', ?_, h15.chg.ext⟩
  rw [decide_eq_true hsB]
end Go.Proofs.Ytdppllkjibfjcaa
