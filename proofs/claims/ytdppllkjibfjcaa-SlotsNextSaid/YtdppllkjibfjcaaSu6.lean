import Derived.Test.YtdppllkjibfjcaaSu5
/-! super: Decode of what is no superblock. -/
namespace Go.Proofs.Ytdppllkjibfjcaa
open Go.Sh Go.RowKit
set_option linter.unusedVariables false
set_option maxRecDepth 20000
set_option maxHeartbeats 1000000
def badE (s : List UInt8) : Int := if (openB s).2 then 81 else 80
theorem badE_ne (s : List UInt8) : badE s ≠ 0 := by unfold badE; split <;> decide
theorem leN_mod (b : UInt8) (l : List UInt8) : leN (b :: l) % 256 = b.toNat := by
  have := b.toNat_lt
  simp only [leN]; omega
theorem decode_bad {s : ByteArray} (hs : s.size = 64) (hb : s.data.toList.getD 0 0 ≠ 82) (w : World) : Ret Try.prog 66 #[.string s] w (.tuple #[.agg (supC sup0), .int .i64 (badE s.data.toList)]) := by
  refine ret_of (super_Decode_calls ?_)
  unfold super_Decode
  have hl : s.data.toList.length = 64 := by rw [Array.length_toList]; exact hs
  refine Alloc.t (T.nil w) fun k2 w1 h1 => ?_
  have h1 : T [] w w1 [blk k2 (supC sup0) 58] := h1
  refine no (by rw [hs]; rfl) ?_
  refine (open_spec s (by omega) w1).mono fun e w2 ⟨he, hx2⟩ => ⟨_, _, he, ?_⟩
  have h2 := h1.quiet hx2
  unfold badE
  cases ho : (openB s.data.toList).2 with
  | false =>
    refine yes rfl ?_
    exact st10 (a := sup0) (b := sup0) h2 fun w15 h15 => rd10 h15 (k := k2) (t := 58) (by first | exact List.Mem.head _ | exact List.Mem.tail _ (List.Mem.head _) | exact List.Mem.tail _ (List.Mem.tail _ (List.Mem.head _)) | exact List.Mem.tail _ (List.Mem.tail _ (List.Mem.tail _ (List.Mem.head _))) | exact List.Mem.tail _ (List.Mem.tail _ (List.Mem.tail _ (List.Mem.tail _ (List.Mem.head _)))) | exact List.Mem.tail _ (List.Mem.tail _ (List.Mem.tail _ (List.Mem.tail _ (List.Mem.tail _ (List.Mem.head _))))) | exact List.Mem.tail _ (List.Mem.tail _ (List.Mem.tail _ (List.Mem.tail _ (List.Mem.tail _ (List.Mem.tail _ (List.Mem.head _)))))) | exact List.Mem.tail _ (List.Mem.tail _ (List.Mem.tail _ (List.Mem.tail _ (List.Mem.tail _ (List.Mem.tail _ (List.Mem.tail _ (List.Mem.head _))))))) | exact List.Mem.tail _ (List.Mem.tail _ (List.Mem.tail _ (List.Mem.tail _ (List.Mem.tail _ (List.Mem.tail _ (List.Mem.tail _ (List.Mem.tail _ (List.Mem.head _)))))))) | exact List.Mem.tail _ (List.Mem.tail _ (List.Mem.tail _ (List.Mem.tail _ (List.Mem.tail _ (List.Mem.tail _ (List.Mem.tail _ (List.Mem.tail _ (List.Mem.tail _ (List.Mem.head _))))))))) | exact List.Mem.tail _ (List.Mem.tail _ (List.Mem.tail _ (List.Mem.tail _ (List.Mem.tail _ (List.Mem.tail _ (List.Mem.tail _ (List.Mem.tail _ (List.Mem.tail _ (List.Mem.tail _ (List.Mem.head _)))))))))) | exact List.Mem.tail _ (List.Mem.tail _ (List.Mem.tail _ (List.Mem.tail _ (List.Mem.tail _ (List.Mem.tail _ (List.Mem.tail _ (List.Mem.tail _ (List.Mem.tail _ (List.Mem.tail _ (List.Mem.tail _ (List.Mem.head _)))))))))))) ⟨rfl, h15.chg.ext⟩
  | true =>
    refine no rfl ?_
    have ho1 : (openB s.data.toList).1 = s.data.toList.take 60 := by
      unfold openB at ho ⊢
      rw [hl] at ho ⊢
      rw [if_neg (by omega)] at ho ⊢
      split at ho
      · rename_i hq
        rw [if_pos hq]
      · cases ho
    rw [ho1]
    refine (widths_spec h2).mono fun e w3 ⟨g, c, he, h3⟩ => ⟨_, _, _, he, ?_⟩
    refine (size_spec supW_wid (T.readsW h3 List.mem_cons_self)).mono fun e w4 ⟨he, hx4⟩ => ⟨_, _, he, ?_⟩
    have h4 := h3.quiet hx4
    have hp60 : (strB (s.data.toList.take 60)).size = 60 := by rw [strB_size, List.length_take]; omega
    have hsl : ∀ w', (Instr.sliceAt 9 (.string (strB (s.data.toList.take 60))) none (some (.int .i64 31)) none).run Try.prog w' = .ok (.string (strB (s.data.toList.take 31))) w' := fun w' => by
      rw [slice_to (by kernel_rfl) (by omega) (by rw [hp60]; omega)]
      rw [show (31 : Int).toNat = 31 from rfl, strB_extract, List.drop_zero, Nat.sub_zero, List.take_take]
      rfl
    refine ⟨_, w4, hsl w4, ?_⟩
    refine (decode_spec supW_wid (s := strB (s.data.toList.take 31)) (by rw [strB_size, List.length_take, hl]; rfl) h4 (g2 := g) (n2 := 11) (c2 := c) rfl List.mem_cons_self).mono fun e w5 ⟨b, he, h5⟩ => ⟨_, _, _, _, he, no rfl ?_⟩
    have hd : (decP (strB (s.data.toList.take 31)).data.toList supW)[0]? = some (leN (s.data.toList.take 4)) := by
      show some (leN ((s.data.toList.take 31).take 4)) = _
      rw [List.take_take]
      rfl
    refine ⟨_, rfl, by omega, by show (0 : Int) < 11; omega, _, rowP.cell (h5.says List.mem_cons_self) (u64s_get hd), yes ?_ ?_⟩
    · have hne : leN (s.data.toList.take 4) ≠ 827610706 := by
        intro h
        cases hq : s.data.toList with
        | nil => rw [hq] at hl; cases hl
        | cons b0 r =>
          rw [hq] at h hb
          have h1 : leN ((b0 :: r).take 4) % 256 = b0.toNat := leN_mod b0 (r.take 3)
          rw [h] at h1
          apply hb
          show b0 = 82
          apply UInt8.toNat_inj.1
          rw [← h1]; rfl
      simp only [bne_iff_ne, ne_eq]
      omega
    · have h6 : T [] w w5 (blk k2 (supC sup0) 58 :: _) := h5.swap (Pick.perm (.tail (.tail .head)))
      exact st10 (a := sup0) (b := sup0) h6 fun w15 h15 => rd10 h15 (k := k2) (t := 58) (by first | exact List.Mem.head _ | exact List.Mem.tail _ (List.Mem.head _) | exact List.Mem.tail _ (List.Mem.tail _ (List.Mem.head _)) | exact List.Mem.tail _ (List.Mem.tail _ (List.Mem.tail _ (List.Mem.head _))) | exact List.Mem.tail _ (List.Mem.tail _ (List.Mem.tail _ (List.Mem.tail _ (List.Mem.head _)))) | exact List.Mem.tail _ (List.Mem.tail _ (List.Mem.tail _ (List.Mem.tail _ (List.Mem.tail _ (List.Mem.head _))))) | exact List.Mem.tail _ (List.Mem.tail _ (List.Mem.tail _ (List.Mem.tail _ (List.Mem.tail _ (List.Mem.tail _ (List.Mem.head _)))))) | exact List.Mem.tail _ (List.Mem.tail _ (List.Mem.tail _ (List.Mem.tail _ (List.Mem.tail _ (List.Mem.tail _ (List.Mem.tail _ (List.Mem.head _))))))) | exact List.Mem.tail _ (List.Mem.tail _ (List.Mem.tail _ (List.Mem.tail _ (List.Mem.tail _ (List.Mem.tail _ (List.Mem.tail _ (List.Mem.tail _ (List.Mem.head _)))))))) | exact List.Mem.tail _ (List.Mem.tail _ (List.Mem.tail _ (List.Mem.tail _ (List.Mem.tail _ (List.Mem.tail _ (List.Mem.tail _ (List.Mem.tail _ (List.Mem.tail _ (List.Mem.head _))))))))) | exact List.Mem.tail _ (List.Mem.tail _ (List.Mem.tail _ (List.Mem.tail _ (List.Mem.tail _ (List.Mem.tail _ (List.Mem.tail _ (List.Mem.tail _ (List.Mem.tail _ (List.Mem.tail _ (List.Mem.head _)))))))))) | exact List.Mem.tail _ (List.Mem.tail _ (List.Mem.tail _ (List.Mem.tail _ (List.Mem.tail _ (List.Mem.tail _ (List.Mem.tail _ (List.Mem.tail _ (List.Mem.tail _ (List.Mem.tail _ (List.Mem.tail _ (List.Mem.head _)))))))))))) ⟨rfl, h15.chg.ext⟩
end Go.Proofs.Ytdppllkjibfjcaa
