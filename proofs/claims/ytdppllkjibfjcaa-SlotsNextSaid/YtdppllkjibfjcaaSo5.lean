import Derived.Test.YtdppllkjibfjcaaSo4
/-! slots: SlotsNone. -/
namespace Go.Proofs.Ytdppllkjibfjcaa
open Go.Sh Go.RowKit
set_option linter.unusedVariables false
set_option linter.unusedSimpArgs false
set_option maxRecDepth 20000
set_option maxHeartbeats 1000000
theorem sshown_end {w w1 : World} (hx : Ext w w1) : Calls Try.prog 32 #[] w1 fun e w2 => ∃ b : Bool, e = .returned (.bool b) ∧ RetR w (.bool true) (.bool b) w2 :=
  (sshown_spec w1).mono fun e w2 ⟨he, hx2⟩ => ⟨true, he, rfl, hx.trans hx2⟩
def junkB (s : ByteArray) : ByteArray := (((ByteArray.mk #[122, 122]) ++ s) ++ zeroSec).extract 0 64
theorem junkB_eq (s : ByteArray) : junkB s = strB (([122, 122] ++ s.data.toList ++ List.replicate 64 0).take 64) := by
  have h1 : (ByteArray.mk #[122, 122]) = strB [122, 122] := rfl
  have h2 : zeroSec = strB (List.replicate 64 0) := rfl
  unfold junkB
  rw [h1, h2]
  conv => lhs; rw [← strB_list s]
  rw [strB_append, strB_append, strB_extract]
  rfl
theorem junkB_size (s : ByteArray) : (junkB s).size = 64 := by
  rw [junkB_eq, strB_size]; simp
theorem junkB_cont (s : ByteArray) : Cont (junkB s) sup0 false := by
  refine .bad (junkB_size s) ?_
  rw [junkB_eq]
  show ((([122, 122] ++ s.data.toList ++ List.replicate 64 0).take 64).getD 0 0 : UInt8) ≠ 82
  show (122 : UInt8) ≠ 82
  decide
theorem saved_load {s : SupV} (hm : MayS s) {f : Nat → ByteArray} (h0 : Cont (f 0) sup0 false) (h1 : Cont (f 1) sup0 false) :
    ∃ s0 b0 s1 b1, Cont (if 0 = (s.events % 2).toNat then strB (encS s) else f 0) s0 b0 ∧ Cont (if 1 = (s.events % 2).toNat then strB (encS s) else f 1) s1 b1 ∧ loadS s0 b0 s1 b1 = (s, 0) := by
  have he : (s.events % 2).toNat = 0 ∨ (s.events % 2).toNat = 1 := by omega
  rcases he with he | he
  · rw [he]
    exact ⟨s, true, sup0, false, by rw [if_pos rfl]; exact cont_enc hm, by rw [if_neg (by decide)]; exact h1, rfl⟩
  · rw [he]
    exact ⟨sup0, false, s, true, by rw [if_neg (by decide)]; exact h0, by rw [if_pos rfl]; exact cont_enc hm, rfl⟩
def pickJ (j0 j1 : ByteArray) (j : Nat) : ByteArray := if j = 0 then j0 else j1
theorem none_spec {u e r : Int} (hu : 0 ≤ u ∧ u < 18446744073709551616) (hev : 0 ≤ e ∧ e < 18446744073709551616) (hr : 0 ≤ r ∧ r < 256) (j0 j1 : ByteArray) (w : World) :
    Ret Try.prog 8 #[.int .u64 u, .int .u64 e, .int .u8 r, .agg #[.string j0, .string j1]] w (.bool true) := by
  refine ret_of (revetmentlaw09_SlotsNone_calls ?_)
  unfold revetmentlaw09_SlotsNone
  refine Alloc.t (T.nil w) fun k7 w1 h1 => ?_
  refine ⟨by omega, by omega, j0, h1.ld List.mem_cons_self rfl, dec_t fun _ => sshown_end h1.chg.ext, dec_f fun hj0 => ⟨by omega, by omega, j1, h1.ld List.mem_cons_self rfl, dec_t fun _ => sshown_end h1.chg.ext, dec_f fun hj1 => ?_⟩⟩
  refine (sshown_spec w1).mono fun e_ w4 ⟨he, hx4⟩ => ⟨_, he, no rfl ?_⟩
  refine new_u (n := 3) (h1.quiet hx4) (by omega) fun p w6 h6 => ⟨_, rfl, no rfl ?_⟩
  refine ⟨fun vs w' => ∃ (i : Nat) (a : AD), vs = [.int .i64 (i : Int)] ∧ i ≤ 2 ∧ Dr p a [] w w' [blk k7 #[.string j0, .string j1] 54] ∧ a.Hold 3 (fun j => if j < i then junkB (pickJ j0 j1 j) else zeroSec), fun vs _ => match vs with | [.int _ i] => (2 - i).toNat | _ => 0, ⟨0, AD.new 3, rfl, by omega, h6, by simpa using hold_new 3⟩, ?_⟩
  rintro vs w7 ⟨i, a, rfl, hi, h7, hh⟩
  refine ⟨_, rfl, dec_t fun hlt => ?_, dec_f fun hge => ?_⟩
  · have hlt : i < 2 := by omega
    have hsz : (pickJ j0 j1 i).size ≤ 60 := by unfold pickJ; split <;> omega
    refine ⟨fun w' => Dr p a [] w w' [blk k7 #[.string j0, .string j1] 54], drew_dr h7, by omega, by omega, pickJ j0 j1 i, fun w' hd => ?_, ?_, ?_⟩
    · rw [Int.toNat_natCast, addr_add, Nat.zero_add, Nat.mul_one]
      have hi2 : i = 0 ∨ i = 1 := by omega
      rcases hi2 with rfl | rfl
      · exact hd.under.ld List.mem_cons_self rfl
      · exact hd.under.ld List.mem_cons_self rfl
    · have : (ByteArray.mk #[122, 122]).size = 2 := rfl
      omega
    · refine (blank_spec _).mono fun e_ w8 ⟨he, hx8⟩ => ⟨_, he, (drew_dr h7).quiet hx8, ?_, ?_⟩
      · rw [ByteArray.size_append, zeroSec_size]
        have : (ByteArray.mk #[122, 122]).size = 2 := rfl
        omega
      · refine ⟨_, fun x0 _ => slice_to (by kernel_rfl) (by omega) (by
          rw [ByteArray.size_append, ByteArray.size_append, zeroSec_size]
          have : (ByteArray.mk #[122, 122]).size = 2 := rfl
          omega), ?_⟩
        have hput : a.put (i : Int) (junkB (pickJ j0 j1 i)) = 0 := hh.on.put (by omega) (junkB_size _)
        refine change_u ((drew_dr h7).quiet hx8) hput fun w9 h9 => ⟨_, rfl, no rfl ⟨⟨i + 1, _, ?_, by omega, h9, ?_⟩, ?_⟩⟩
        · rw [wrap64 _ (by omega) (by omega)]; rfl
        · have h10 := hh.change (i := i) (by omega) (junkB_size (pickJ j0 j1 i))
          have : (fun j => if j = i then junkB (pickJ j0 j1 i) else if j < i then junkB (pickJ j0 j1 j) else zeroSec) = fun j => if j < i + 1 then junkB (pickJ j0 j1 j) else zeroSec := by
            funext j
            by_cases e1 : j = i
            · subst e1; rw [if_pos rfl, if_pos (by omega)]
            · rw [if_neg e1]
              by_cases e2 : j < i
              · rw [if_pos e2, if_pos (by omega)]
              · rw [if_neg e2, if_neg (by omega)]
          rw [this] at h10
          exact h10
        · show ((2 : Int) - IntKind.i64.wrap ((i : Int) + 1)).toNat < ((2 : Int) - (i : Int)).toNat
          rw [wrap64 _ (by omega) (by omega)]; omega
  · have hie : i = 2 := by omega
    subst hie
    have hm : MayS (someS u e r) := someS_may hu hev
    refine load_u (s := sup0) (e := 90) h7 hh (by omega) (s0 := sup0) (b0 := false) (s1 := sup0) (b1 := false) (junkB_cont j0) (junkB_cont j1) rfl fun w10 h10 => ⟨_, _, _, _, _, _, _, _, _, _, _, rfl, ?_⟩
    refine Dr.alloc h10 fun k12 w11 h11 => Dr.st10 (x := sup0) (y := sup0) h11 fun w12 h12 => ?_
    refine (some_spec (u := u) (e := e) (r := r) hr w12).mono fun e_ w13 ⟨he, hx13⟩ => ⟨_, _, _, _, _, _, _, _, _, _, he, ?_⟩
    refine Dr.alloc (h12.quiet hx13) fun k14 w14 h14 => Dr.st10 (x := sup0) (y := someS u e r) h14 fun w15 h15 => ?_
    refine rd10 h15.under (a := someS u e r) (k := k14) (t := 58) (by first | exact List.Mem.head _ | exact List.Mem.tail _ (List.Mem.head _) | exact List.Mem.tail _ (List.Mem.tail _ (List.Mem.head _)) | exact List.Mem.tail _ (List.Mem.tail _ (List.Mem.tail _ (List.Mem.head _))) | exact List.Mem.tail _ (List.Mem.tail _ (List.Mem.tail _ (List.Mem.tail _ (List.Mem.head _)))) | exact List.Mem.tail _ (List.Mem.tail _ (List.Mem.tail _ (List.Mem.tail _ (List.Mem.tail _ (List.Mem.head _))))) | exact List.Mem.tail _ (List.Mem.tail _ (List.Mem.tail _ (List.Mem.tail _ (List.Mem.tail _ (List.Mem.tail _ (List.Mem.head _)))))) | exact List.Mem.tail _ (List.Mem.tail _ (List.Mem.tail _ (List.Mem.tail _ (List.Mem.tail _ (List.Mem.tail _ (List.Mem.tail _ (List.Mem.head _))))))) | exact List.Mem.tail _ (List.Mem.tail _ (List.Mem.tail _ (List.Mem.tail _ (List.Mem.tail _ (List.Mem.tail _ (List.Mem.tail _ (List.Mem.tail _ (List.Mem.head _)))))))) | exact List.Mem.tail _ (List.Mem.tail _ (List.Mem.tail _ (List.Mem.tail _ (List.Mem.tail _ (List.Mem.tail _ (List.Mem.tail _ (List.Mem.tail _ (List.Mem.tail _ (List.Mem.head _))))))))) | exact List.Mem.tail _ (List.Mem.tail _ (List.Mem.tail _ (List.Mem.tail _ (List.Mem.tail _ (List.Mem.tail _ (List.Mem.tail _ (List.Mem.tail _ (List.Mem.tail _ (List.Mem.tail _ (List.Mem.head _)))))))))) | exact List.Mem.tail _ (List.Mem.tail _ (List.Mem.tail _ (List.Mem.tail _ (List.Mem.tail _ (List.Mem.tail _ (List.Mem.tail _ (List.Mem.tail _ (List.Mem.tail _ (List.Mem.tail _ (List.Mem.tail _ (List.Mem.head _)))))))))))) ?_
    refine saved_u (s := someS u e r) h15 hh (by omega) hm fun a' w16 h16 hh' => ⟨_, rfl, ?_⟩
    obtain ⟨s0, b0, s1, b1, hc0, hc1, hl⟩ := saved_load hm (f := fun j => if j < 2 then junkB (pickJ j0 j1 j) else zeroSec) (junkB_cont j0) (junkB_cont j1)
    refine load_u (s := someS u e r) (e := 0) h16 hh' (by omega) hc0 hc1 hl fun w17 h17 => ⟨_, _, _, _, _, _, _, _, _, _, _, rfl, ?_⟩
    refine Dr.alloc h17 fun k16 w18 h18 => Dr.st10 (x := sup0) (y := someS u e r) h18 fun w19 h19 => ?_
    refine yes rfl (yes rfl (yes rfl ?_))
    refine rd10 h19.under (a := someS u e r) (k := k16) (t := 58) (by first | exact List.Mem.head _ | exact List.Mem.tail _ (List.Mem.head _) | exact List.Mem.tail _ (List.Mem.tail _ (List.Mem.head _)) | exact List.Mem.tail _ (List.Mem.tail _ (List.Mem.tail _ (List.Mem.head _))) | exact List.Mem.tail _ (List.Mem.tail _ (List.Mem.tail _ (List.Mem.tail _ (List.Mem.head _)))) | exact List.Mem.tail _ (List.Mem.tail _ (List.Mem.tail _ (List.Mem.tail _ (List.Mem.tail _ (List.Mem.head _))))) | exact List.Mem.tail _ (List.Mem.tail _ (List.Mem.tail _ (List.Mem.tail _ (List.Mem.tail _ (List.Mem.tail _ (List.Mem.head _)))))) | exact List.Mem.tail _ (List.Mem.tail _ (List.Mem.tail _ (List.Mem.tail _ (List.Mem.tail _ (List.Mem.tail _ (List.Mem.tail _ (List.Mem.head _))))))) | exact List.Mem.tail _ (List.Mem.tail _ (List.Mem.tail _ (List.Mem.tail _ (List.Mem.tail _ (List.Mem.tail _ (List.Mem.tail _ (List.Mem.tail _ (List.Mem.head _)))))))) | exact List.Mem.tail _ (List.Mem.tail _ (List.Mem.tail _ (List.Mem.tail _ (List.Mem.tail _ (List.Mem.tail _ (List.Mem.tail _ (List.Mem.tail _ (List.Mem.tail _ (List.Mem.head _))))))))) | exact List.Mem.tail _ (List.Mem.tail _ (List.Mem.tail _ (List.Mem.tail _ (List.Mem.tail _ (List.Mem.tail _ (List.Mem.tail _ (List.Mem.tail _ (List.Mem.tail _ (List.Mem.tail _ (List.Mem.head _)))))))))) | exact List.Mem.tail _ (List.Mem.tail _ (List.Mem.tail _ (List.Mem.tail _ (List.Mem.tail _ (List.Mem.tail _ (List.Mem.tail _ (List.Mem.tail _ (List.Mem.tail _ (List.Mem.tail _ (List.Mem.tail _ (List.Mem.head _)))))))))))) (rd10 h19.under (a := someS u e r) (k := k14) (t := 58) (by first | exact List.Mem.head _ | exact List.Mem.tail _ (List.Mem.head _) | exact List.Mem.tail _ (List.Mem.tail _ (List.Mem.head _)) | exact List.Mem.tail _ (List.Mem.tail _ (List.Mem.tail _ (List.Mem.head _))) | exact List.Mem.tail _ (List.Mem.tail _ (List.Mem.tail _ (List.Mem.tail _ (List.Mem.head _)))) | exact List.Mem.tail _ (List.Mem.tail _ (List.Mem.tail _ (List.Mem.tail _ (List.Mem.tail _ (List.Mem.head _))))) | exact List.Mem.tail _ (List.Mem.tail _ (List.Mem.tail _ (List.Mem.tail _ (List.Mem.tail _ (List.Mem.tail _ (List.Mem.head _)))))) | exact List.Mem.tail _ (List.Mem.tail _ (List.Mem.tail _ (List.Mem.tail _ (List.Mem.tail _ (List.Mem.tail _ (List.Mem.tail _ (List.Mem.head _))))))) | exact List.Mem.tail _ (List.Mem.tail _ (List.Mem.tail _ (List.Mem.tail _ (List.Mem.tail _ (List.Mem.tail _ (List.Mem.tail _ (List.Mem.tail _ (List.Mem.head _)))))))) | exact List.Mem.tail _ (List.Mem.tail _ (List.Mem.tail _ (List.Mem.tail _ (List.Mem.tail _ (List.Mem.tail _ (List.Mem.tail _ (List.Mem.tail _ (List.Mem.tail _ (List.Mem.head _))))))))) | exact List.Mem.tail _ (List.Mem.tail _ (List.Mem.tail _ (List.Mem.tail _ (List.Mem.tail _ (List.Mem.tail _ (List.Mem.tail _ (List.Mem.tail _ (List.Mem.tail _ (List.Mem.tail _ (List.Mem.head _)))))))))) | exact List.Mem.tail _ (List.Mem.tail _ (List.Mem.tail _ (List.Mem.tail _ (List.Mem.tail _ (List.Mem.tail _ (List.Mem.tail _ (List.Mem.tail _ (List.Mem.tail _ (List.Mem.tail _ (List.Mem.tail _ (List.Mem.head _)))))))))))) ⟨true, w19, ?_, rfl, h19.ext⟩)
    have := eql_sup (someS u e r) (someS u e r) (.tmp 80) (.tmp 81) w19
    rw [decide_eq_true rfl] at this
    exact this
end Go.Proofs.Ytdppllkjibfjcaa
