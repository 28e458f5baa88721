import Derived.Test.YtdppllkjibfjcaaM5
import Derived.Test.YtdppllkjibfjcaaM10
import Derived.Test.YtdppllkjibfjcaaM11
import Derived.Test.YtdppllkjibfjcaaM12
import Derived.Test.YtdppllkjibfjcaaM13
import Derived.Test.YtdppllkjibfjcaaM14
section
/-! The reference's Check and May: the same answers. -/
namespace Go.Proofs.Ytdppllkjibfjcaa
open Go.Sh Go.RowKit
set_option linter.unusedVariables false
set_option maxRecDepth 20000
set_option maxHeartbeats 1000000
theorem rcheck_spec (c k r : Int) (w : World) : Ret Try.prog 91 #[.agg #[.int .i64 c, .int .i64 k, .int .i64 r]] w (.int .i64 (if OkG c k r then 0 else 1)) := by
  refine ret_of (revetmentref07_Check_calls ?_)
  unfold revetmentref07_Check
  refine Alloc.t (T.nil w) fun k1 w1 h1 => ?_
  have bad : ¬ OkG c k r → RetR w (.int .i64 (if OkG c k r then 0 else 1)) (.int .i64 1) w1 := fun h => ⟨by rw [if_neg h], h1.chg.ext⟩
  refine ⟨_, h1.ld List.mem_cons_self rfl, dec_t fun h => bad (by unfold OkG; omega), dec_f fun g1 => ⟨_, h1.ld List.mem_cons_self rfl, dec_t fun h => bad (by unfold OkG; omega), dec_f fun g2 => ⟨_, h1.ld List.mem_cons_self rfl, dec_t fun h => bad (by unfold OkG; omega), dec_f fun g3 => ⟨_, h1.ld List.mem_cons_self rfl, dec_t fun h => bad (by unfold OkG; omega), dec_f fun g4 =>
    ⟨_, h1.ld List.mem_cons_self rfl, dec_t fun h => bad (by unfold OkG; omega), dec_f fun g5 => ⟨_, h1.ld List.mem_cons_self rfl, dec_t fun h => bad (by unfold OkG; omega), dec_f fun g6 => ⟨by rw [if_pos (by unfold OkG; omega)], h1.chg.ext⟩⟩⟩⟩⟩⟩⟩
theorem rmay_spec (a : SupV) (w : World) : Ret Try.prog 81 #[.agg (supC a)] w (.bool (decide (MayF a))) := by
  refine ret_of (revetmentref08_May_calls ?_)
  unfold revetmentref08_May
  refine Alloc.t (T.nil w) fun k1 w1 h1 => ?_
  have h1 : T [] w w1 [blk k1 (supC a) 76] := h1
  refine Join.intro fun J hJ => ?_
  have bad : ∀ w', T [] w w' [blk k1 (supC a) 76] → ¬ MayF a → RetR w (.bool (decide (MayF a))) (.bool false) w' := fun w' h hn => ⟨by rw [decide_eq_false hn], h.chg.ext⟩
  have j : ∀ w2, T [] w w2 [blk k1 (supC a) 76] → a.uuid ≠ 0 → OkG a.cols a.chunk a.rows → (a.new ≠ 0 → a.cols + 1 ≤ a.new ∧ a.new ≤ 10) → J [] w2 := by
    intro w2 h2 hu hg hn
    have hg' := hg
    unfold OkG at hg'
    refine hJ _ _ ⟨rfl, Join.intro fun J1 hJ1 => ?_⟩
    have j1 : (a.role = 254 ∨ a.role = 255 ∨ (0 ≤ a.role ∧ a.role ≤ (if a.new > a.cols then a.new else a.cols) - 1)) → J1 [] w2 := by
      intro hro
      refine hJ1 _ _ ⟨rfl, _, h2.ld List.mem_cons_self rfl, dec_t fun b1 => ?_, dec_f fun b1 => bad _ h2 fun h => b1 h.2.2.2.2.1.1⟩
      refine ⟨_, h2.ld List.mem_cons_self rfl, _, h2.ld List.mem_cons_self rfl, dec_t fun b2 => ?_, dec_f fun b2 => bad _ h2 fun h => b2 h.2.2.2.2.1.2⟩
      refine ⟨_, h2.ld List.mem_cons_self rfl, dec_t fun b3 => ?_, dec_f fun b3 => bad _ h2 fun h => b3 h.2.2.2.2.2.1⟩
      refine ⟨_, h2.ld List.mem_cons_self rfl, _, h2.ld List.mem_cons_self rfl, dec_t fun b4 => ?_, dec_f fun b4 => bad _ h2 fun h => b4 h.2.2.2.2.2.2⟩
      refine ⟨_, h2.ld List.mem_cons_self rfl, bne_t fun b5 => ⟨?_, h2.chg.ext⟩, bne_f fun b5 => ⟨_, h2.ld List.mem_cons_self rfl, ?_, h2.chg.ext⟩⟩
      · rw [decide_eq_true (show MayF a from ⟨hu, hg, .inr ⟨b5, hn b5⟩, hro, ⟨b1, b2⟩, ⟨b3, b4⟩⟩)]
      · by_cases hz : a.grown = 0
        · rw [decide_eq_true (show MayF a from ⟨hu, hg, .inl ⟨b5, hz⟩, hro, ⟨b1, b2⟩, ⟨b3, b4⟩⟩)]
          simp [hz]
        · rw [decide_eq_false (fun h : MayF a => by
            rcases h.2.2.1 with ⟨_, h'⟩ | ⟨h', _⟩
            · exact hz h'
            · exact h' b5)]
          simp [hz]
    refine ⟨_, h2.ld List.mem_cons_self rfl, bne_t fun r1 => ?_, bne_f fun r1 => j1 (.inl r1)⟩
    refine ⟨_, h2.ld List.mem_cons_self rfl, bne_t fun r2 => ?_, bne_f fun r2 => j1 (.inr (.inl r2))⟩
    have no3 : ¬ (0 ≤ a.role ∧ a.role ≤ (if a.new > a.cols then a.new else a.cols) - 1) → ¬ MayF a := fun hh h => by
      rcases h.2.2.2.1 with h | h | h
      · exact r1 h
      · exact r2 h
      · exact hh h
    refine ⟨_, h2.ld List.mem_cons_self rfl, dec_t fun r3 => bad _ h2 (no3 (by omega)), dec_f fun r3 => ?_⟩
    refine ⟨_, h2.ld List.mem_cons_self rfl, _, h2.ld List.mem_cons_self rfl, _, h2.ld List.mem_cons_self rfl, _, w2, max_run _ _ _ _ _ _, dec_t fun r4 => bad _ h2 (no3 (by omega)), dec_f fun r4 => j1 (.inr (.inr (by omega)))⟩
  refine ⟨_, h1.ld List.mem_cons_self rfl, beq_t fun z => bad _ h1 (fun h => h.1 z), beq_f fun z => ?_⟩
  refine ⟨_, _, _, ⟨h1.ld List.mem_cons_self rfl, h1.ld List.mem_cons_self rfl, h1.ld List.mem_cons_self rfl⟩, ?_⟩
  refine (rcheck_spec a.cols a.chunk a.rows w1).mono fun e w2 ⟨he, hx2⟩ => ⟨_, he, ?_⟩
  have h2 := h1.quiet hx2
  by_cases hg : OkG a.cols a.chunk a.rows
  · rw [if_pos hg]
    refine no rfl ⟨_, h2.ld List.mem_cons_self rfl, bne_t fun n0 => ?_, bne_f fun n0 => j _ h2 z hg fun h => absurd n0 h⟩
    have nn : ¬ (a.cols + 1 ≤ a.new ∧ a.new ≤ 10) → ¬ MayF a := fun hh h => by
      rcases h.2.2.1 with ⟨h', _⟩ | ⟨_, h'⟩
      · exact n0 h'
      · exact hh h'
    refine ⟨_, h2.ld List.mem_cons_self rfl, _, h2.ld List.mem_cons_self rfl, dec_t fun c1 => bad _ h2 (nn (by omega)), dec_f fun c1 => ⟨_, h2.ld List.mem_cons_self rfl, dec_t fun c2 => bad _ h2 (nn (by omega)), dec_f fun c2 => j _ h2 z hg fun _ => by omega⟩⟩
  · rw [if_neg hg]
    exact yes rfl (bad _ h2 fun h => hg h.2.1)
end Go.Proofs.Ytdppllkjibfjcaa
end
section
/-! The reference's crc: the same sums. -/
namespace Go.Proofs.Ytdppllkjibfjcaa
open Go.Sh Go.RowKit
set_option linter.unusedVariables false
set_option maxRecDepth 20000
set_option maxHeartbeats 1000000
theorem max_xor32 (x : B32) : bits2 .xor .u32 IntKind.u32.max (x.toNat : Int) = ((~~~ x).toNat : Int) := by
  have : IntKind.u32.max = (((-1#32 : B32)).toNat : Int) := by decide
  rw [this, xor32]
  congr 2
theorem bit_one (x : B32) : (bits2 .and .u32 (x.toNat : Int) 1 == 1) = x.getLsbD 0 := by
  have h1 : bits2 .and .u32 (x.toNat : Int) 1 = ((x &&& 1#32).toNat : Int) := and32 x 1#32
  rw [h1, BitVec.toNat_and]
  have : (1#32).toNat = 1 := rfl
  rw [this, Nat.and_one_is_mod]
  have h2 : x.getLsbD 0 = decide (x.toNat % 2 = 1) := by
    simp [BitVec.getLsbD, Nat.testBit]
    rfl
  rw [h2]
  rcases Nat.mod_two_eq_zero_or_one x.toNat with h | h <;> simp [h]
theorem it1_succ (j : Nat) (x : B32) : it1 (j + 1) x = step1 (it1 j x) := rfl
theorem it1_8 (x : B32) : it1 8 x = step4 (step4 x) := rfl
theorem rmore_spec (n : B32) (s : ByteArray) (hs : s.size ≤ 1000000000) (w : World) : Ret Try.prog 103 #[u32v n, .string s] w (u32v (crcMore n s.data.toList)) := by
  refine ret_of (revetmentref02_More_calls ?_)
  unfold revetmentref02_More
  rw [max_xor32]
  have hl : s.data.toList.length = s.size := Array.length_toList
  refine ⟨fun vs w' => ∃ i : Nat, vs = [u32v ((s.data.toList.take i).foldl crcB (~~~ n)), .int .i64 (i : Int)] ∧ i ≤ s.size ∧ Ext w w', fun vs _ => match vs with | [_, .int _ i] => (s.size - i).toNat | _ => 0, ⟨0, rfl, by omega, .refl w⟩, ?_⟩
  rintro vs w1 ⟨i, rfl, hi, hx⟩
  refine ⟨_, _, rfl, dec_t fun hlt => ?_, dec_f fun hge => ?_⟩
  · have hlt : i < s.size := by omega
    have := index_str (P := Try.prog) (t := 9) (k := .i64) (n := i) (s := s) (w := w1) (by kernel_rfl) (by omega) (by omega)
    rw [Int.toNat_natCast] at this
    refine ⟨_, w1, this, ?_⟩
    generalize hb : s.data.toList.getD i 0 = b
    generalize hx0 : (s.data.toList.take i).foldl crcB (~~~ n) = x
    have hbb := b.toNat_lt
    have ex : bits2 .xor .u32 (x.toNat : Int) (IntKind.u32.wrap ((b.toNat : Nat) : Int)) = ((x ^^^ byte32 b).toNat : Int) := by
      have : IntKind.u32.wrap ((b.toNat : Nat) : Int) = ((byte32 b).toNat : Int) := by
        rw [wrap32 _ (by omega) (by omega)]
        unfold byte32
        rw [BitVec.toNat_ofNat]
        omega
      rw [this, xor32]
    rw [ex]
    refine ⟨fun vs w' => w' = w1 ∧ ∃ j : Nat, vs = [u32v (it1 j (x ^^^ byte32 b)), .int .i64 (j : Int)] ∧ j ≤ 8, fun vs _ => match vs with | [_, .int _ j] => (8 - j).toNat | _ => 0, ⟨rfl, 0, rfl, by omega⟩, ?_⟩
    rintro vs w2 ⟨rfl, j, rfl, hj⟩
    have hms : j < 8 → ((8 : Int) - IntKind.i64.wrap ((j : Int) + 1)).toNat < ((8 : Int) - (j : Int)).toNat := fun h => by rw [wrap64 _ (by omega) (by omega)]; omega
    have hnx : j < 8 → IntKind.i64.wrap ((j : Int) + 1) = ((j + 1 : Nat) : Int) := fun h => by rw [wrap64 _ (by omega) (by omega)]; omega
    refine ⟨_, _, rfl, dec_t fun hjl => ?_, dec_f fun hjg => ?_⟩
    · have hjl : j < 8 := by omega
      rw [bit_one, shr32 _ 1]
      refine ⟨fun hbit => ⟨⟨rfl, j + 1, ?_, by omega⟩, hms hjl⟩, fun hbit => ⟨⟨rfl, j + 1, ?_, by omega⟩, hms hjl⟩⟩
      · have hp : (2197175160 : Int) = (poly.toNat : Int) := rfl
        rw [hnx hjl, it1_succ, step1_bit, hbit, hp, xor32]
        rfl
      · rw [hnx hjl, it1_succ, step1_bit, hbit]
        simp
    · have hj8 : j = 8 := by omega
      subst hj8
      refine ⟨⟨i + 1, ?_, by omega, hx⟩, ?_⟩
      · have : (s.data.toList.take (i + 1)).foldl crcB (~~~ n) = crcB x b := by
          rw [List.take_add_one, List.getElem?_eq_getElem (by omega), ← hx0, ← hb, List.getD_eq_getElem?_getD, List.getElem?_eq_getElem (by omega)]
          simp
        rw [this, it1_8, wrap64 _ (by omega) (by omega)]
        rfl
      · show ((s.size : Int) - IntKind.i64.wrap ((i : Int) + 1)).toNat < ((s.size : Int) - (i : Int)).toNat
        rw [wrap64 _ (by omega) (by omega)]; omega
  · have hie : i = s.size := by omega
    subst hie
    rw [List.take_of_length_le (by omega), max_xor32]
    exact ⟨rfl, hx⟩
theorem rsum_spec (s : ByteArray) (hs : s.size ≤ 1000000000) (w : World) : Ret Try.prog 95 #[.string s] w (u32v (crcSum s.data.toList)) := by
  refine ret_of (revetmentref02_Sum_calls ?_)
  unfold revetmentref02_Sum
  exact (rmore_spec 0#32 s hs w).mono fun e w1 ⟨he, hx⟩ => ⟨_, he, rfl, hx⟩
end Go.Proofs.Ytdppllkjibfjcaa
end
section
/-! The reference's four, Open. -/
namespace Go.Proofs.Ytdppllkjibfjcaa
open Go.Sh Go.RowKit
set_option linter.unusedVariables false
set_option maxRecDepth 20000
set_option maxHeartbeats 1000000
theorem rfour_spec (n : B32) (w : World) : Ret Try.prog 94 #[u32v n] w (.string (strB (four n))) := by
  refine ret_of (revetmentref02_four_calls ?_)
  unfold revetmentref02_four
  refine Alloc.t (T.nil w) fun k w1 h1 => ?_
  have h2 : T [] w w1 [rowP 5 1 (some k) 4 4 (bvals (four n))] := by
    refine blk_row h1 ?_ rfl (by decide)
    have hlt := n.isLt
    have hw : ∀ d : Nat, 0 < d → IntKind.u8.wrap ((n.toNat : Int) / (d : Int)) = ((UInt8.ofNat (n.toNat / d)).toNat : Int) := by
      intro d hd
      rw [wrap8]
      simp
    have h0 : IntKind.u8.wrap (n.toNat : Int) = ((UInt8.ofNat n.toNat).toNat : Int) := by rw [wrap8]; simp
    have hf : ∀ k : Nat, Int.fdiv (n.toNat : Int) (2 ^ k) = (n.toNat : Int) / ((2 ^ k : Nat) : Int) := by
      intro k
      rw [Int.fdiv_eq_ediv_of_nonneg _ (Int.le_of_lt (Int.pow_pos (by decide)))]
      push_cast
      rfl
    rw [hf 8, hf 16, hf 24, hw _ (by decide), hw _ (by decide), hw _ (by decide), h0]
    rfl
  exact ⟨_, w1, row_string h2 List.mem_cons_self, rfl, h2.chg.ext⟩
theorem ropen_spec (s : ByteArray) (hs : s.size ≤ 1000000000) (w : World) : Ret Try.prog 96 #[.string s] w (.tuple #[.string (strB (openB s.data.toList).1), .bool (openB s.data.toList).2]) := by
  refine ret_of (revetmentref02_Open_calls ?_)
  unfold revetmentref02_Open
  have hl : s.data.toList.length = s.size := Array.length_toList
  refine ⟨dec_t fun hlt => ⟨?_, Ext.refl w⟩, dec_f fun hge => ?_⟩
  · unfold openB
    rw [if_pos (by omega)]
  · have wr : IntKind.i64.wrap ((s.size : Int) - 4) = (s.size : Int) - 4 := wrap64 _ (by omega) (by omega)
    rw [wr]
    have htn : ((s.size : Int) - 4).toNat = s.size - 4 := by omega
    have hs1 : s.extract 0 (s.size - 4) = strB (s.data.toList.take (s.size - 4)) := by
      conv => lhs; rw [← strB_list s]
      rw [strB_extract, List.drop_zero, Nat.sub_zero]
    have hs2 : s.extract (s.size - 4) s.size = strB (s.data.toList.drop (s.size - 4)) := by
      conv => lhs; rw [← strB_list s]
      rw [strB_extract, strB_size, hl]
      congr 1
      rw [List.take_of_length_le (by rw [List.length_drop, hl]; omega)]
    refine ⟨strB (s.data.toList.take (s.size - 4)), w, by rw [slice_to (by kernel_rfl) (by omega) (by omega), htn, hs1], fun w' => Ext w w', (Ext.refl w).drew, strB (s.data.toList.drop (s.size - 4)), fun w' _ => by rw [slice_from (by kernel_rfl) (by omega) (by omega), htn, hs2], ?_⟩
    have hz : (strB (s.data.toList.take (s.size - 4))).size ≤ 1000000000 := by rw [strB_size, List.length_take]; omega
    refine (rsum_spec _ hz _).mono fun e w1 ⟨he, hx1⟩ => ⟨_, he, ((Ext.refl w).drew).trans hx1, ?_⟩
    refine (rfour_spec _ w1).mono fun e w2 ⟨he, hx2⟩ => ⟨_, he, (((Ext.refl w).drew).trans hx1).trans hx2, ?_⟩
    have hx := (((Ext.refl w).drew).trans hx1).trans hx2
    have e1 : (strB (four (crcSum (strB (s.data.toList.take (s.size - 4))).data.toList))).toList = four (crcSum (s.data.toList.take (s.size - 4))) := strB_toList _
    rw [e1, strB_toList]
    have ho : openB s.data.toList = if four (crcSum (s.data.toList.take (s.size - 4))) = s.data.toList.drop (s.size - 4) then (s.data.toList.take (s.size - 4), true) else ([], false) := by
      unfold openB
      rw [if_neg (by omega), hl]
    by_cases hq : four (crcSum (s.data.toList.take (s.size - 4))) = s.data.toList.drop (s.size - 4)
    · rw [ho, if_pos hq, hq]
      simp only [beq_self_eq_true, Bool.not_true]
      exact ⟨fun h => (by cases h), fun _ => ⟨trivial, hx⟩⟩
    · rw [ho, if_neg hq]
      have : (s.data.toList.drop (s.size - 4) == four (crcSum (s.data.toList.take (s.size - 4)))) = false := by
        simp only [beq_eq_false_iff_ne, ne_eq]
        exact fun h => hq h.symm
      rw [this]
      exact yes rfl ⟨rfl, hx⟩
end Go.Proofs.Ytdppllkjibfjcaa
end
section
/-! The reference's Seal. -/
namespace Go.Proofs.Ytdppllkjibfjcaa
open Go.Sh Go.RowKit
set_option linter.unusedVariables false
set_option maxRecDepth 20000
set_option maxHeartbeats 1000000
theorem rseal_spec (s : ByteArray) (size : Nat) (hs : s.size + 4 ≤ size) (hz : size ≤ 4096) (w : World) : Ret Try.prog 84 #[.string s, .int .i64 (size : Int)] w (.tuple #[.string (strB (sealB s.data.toList size)), .bool true]) := by
  refine ret_of (revetmentref02_Seal_calls ?_)
  unfold revetmentref02_Seal
  have wr : IntKind.i64.wrap ((size : Int) - 4) = (size : Int) - 4 := wrap64 _ (by omega) (by omega)
  have hl : s.data.toList.length = s.size := Array.length_toList
  rw [wr]
  refine no (decide_eq_false (by omega)) (no (decide_eq_false (by omega)) (no (decide_eq_false (by omega)) ?_))
  refine ⟨fun vs w' => w' = w ∧ ∃ k : Nat, vs = [.string (strB (s.data.toList ++ List.replicate k 0))] ∧ s.size + k ≤ size - 4, fun vs _ => match vs with | [.string t] => size - t.size | _ => 0, ⟨rfl, 0, by rw [List.replicate_zero, List.append_nil, strB_list], by omega⟩, ?_⟩
  rintro vs w1 ⟨rfl, k, rfl, hk⟩
  have hsz : (strB (s.data.toList ++ List.replicate k 0)).size = s.size + k := by rw [strB_size]; simp [hl]
  refine ⟨_, rfl, dec_t fun hlt => ?_, dec_f fun hge => ?_⟩
  · rw [hsz] at hlt
    have e0 : (ByteArray.mk #[0]) = strB [0] := rfl
    have es : strB (s.data.toList ++ List.replicate k 0) ++ ByteArray.mk #[0] = strB (s.data.toList ++ List.replicate (k + 1) 0) := by
      rw [e0, strB_append, List.append_assoc, List.replicate_succ']
    refine ⟨by rw [hsz]; have : (ByteArray.mk #[0]).size = 1 := rfl
               omega, ⟨rfl, k + 1, by rw [es], by omega⟩, ?_⟩
    rw [es]
    show size - (strB (s.data.toList ++ List.replicate (k + 1) 0)).size < size - (strB (s.data.toList ++ List.replicate k 0)).size
    rw [hsz, strB_size]
    simp [hl]; omega
  · rw [hsz] at hge
    have hke : k = size - 4 - s.size := by omega
    have hp : strB (s.data.toList ++ List.replicate k 0) = strB (padB s.data.toList (size - 4)) := by unfold padB; rw [hke, hl]
    rw [hp]
    have hpl : (padB s.data.toList (size - 4)).length = size - 4 := padB_len (by omega)
    refine (rsum_spec _ (by rw [strB_size, hpl]; omega) _).mono fun e w2 ⟨he, hx2⟩ => ⟨_, he, ?_⟩
    refine (rfour_spec _ w2).mono fun e w3 ⟨he, hx3⟩ => ⟨_, he, by rw [strB_size, strB_size, hpl]; have := four_len (crcSum (strB (padB s.data.toList (size - 4))).data.toList); omega, ?_, hx2.trans hx3⟩
    rw [strB_append]
    rfl
end Go.Proofs.Ytdppllkjibfjcaa
end
section
/-! The reference's pack: Size, Fits, Encode, Decode. -/
namespace Go.Proofs.Ytdppllkjibfjcaa
open Go.Sh Go.RowKit
set_option linter.unusedVariables false
set_option linter.unusedSimpArgs false
set_option maxRecDepth 20000
set_option maxHeartbeats 1000000
theorem rsize_spec {ws : List Nat} (hv : Wid ws) {w : World} {g : Option Nat} {cap : Nat} (hm : readsW w g ws) : Ret Try.prog 92 #[.slice (ptr g) ws.length cap] w (.tuple #[.int .i64 (ws.sum : Int), .int .i64 0]) := by
  refine ret_of (revetmentref03_Size_calls ?_)
  unfold revetmentref03_Size
  have hs := hv.sum
  have hl := hv.1
  refine no (decide_eq_false (by omega)) ?_
  refine ⟨fun vs w' => w' = w ∧ ∃ i : Nat, vs = [.int .i64 (wsum ws i : Int), .int .i64 (i : Int)] ∧ i ≤ ws.length, fun vs _ => match vs with | [_, .int _ i] => (ws.length - i).toNat | _ => 0, ⟨rfl, 0, rfl, by omega⟩, ?_⟩
  rintro vs w1 ⟨rfl, i, rfl, hi⟩
  refine ⟨_, _, rfl, dec_t fun hlt => ?_, dec_f fun hge => ?_⟩
  · have hlt : i < ws.length := by omega
    obtain ⟨b, rfl, hc⟩ := hm i ws[i] (by simp [hlt])
    have hx := hv.at (i := i) (x := ws[i]) (by simp [hlt])
    have hst := wsum_step (ws := ws) (i := i) (x := ws[i]) (by simp [hlt])
    have hmx := wsum_max (ws := ws) (i + 1)
    have hcell : w1.cell? (Addr.add ⟨b, 0, none⟩ ((i : Int).toNat * 1)) = some (.int .i64 (ws[i] : Int)) := by rw [addr_add, Nat.zero_add, Nat.mul_one, Int.toNat_natCast]; exact hc
    refine ⟨_, rfl, by omega, by omega, _, hcell, no (decide_eq_false (by omega)) ⟨_, rfl, by omega, by omega, _, hcell, no (decide_eq_false (by omega)) ⟨_, rfl, by omega, by omega, _, hcell, ⟨rfl, i + 1, ?_, by omega⟩, ?_⟩⟩⟩
    · rw [wrap64 _ (by omega) (by omega), wrap64 _ (by omega) (by omega), hst]; simp
    · show ((ws.length : Int) - IntKind.i64.wrap ((i : Int) + 1)).toNat < ((ws.length : Int) - (i : Int)).toNat
      rw [wrap64 _ (by omega) (by omega)]; omega
  · have hie : i = ws.length := by omega
    subst hie
    rw [wsum_all ws (Nat.le_refl _)]
    exact ⟨rfl, Ext.refl _⟩
theorem rfits_spec (n x : Nat) (hn : n < 256 ^ x) (hx : 1 ≤ x ∧ x ≤ 8) (w : World) : Ret Try.prog 93 #[.int .u64 (n : Int), .int .i64 (x : Int)] w (.bool true) := by
  refine ret_of (revetmentref03_Fits_calls ?_)
  unfold revetmentref03_Fits
  refine no (decide_eq_false (by omega)) (no (decide_eq_false (by omega)) ?_)
  refine ⟨fun vs w' => w' = w ∧ ∃ k : Nat, vs = [.int .u64 ((n / 256 ^ k : Nat) : Int), .int .i64 (k : Int)] ∧ k ≤ x, fun vs _ => match vs with | [_, .int _ k] => (x - k).toNat | _ => 0, ⟨rfl, 0, by rw [Nat.pow_zero, Nat.div_one]; rfl, by omega⟩, ?_⟩
  rintro vs w1 ⟨rfl, k, rfl, hk⟩
  refine ⟨_, _, rfl, dec_t fun hlt => ?_, dec_f fun hge => ?_⟩
  · have e : Int.fdiv ((n / 256 ^ k : Nat) : Int) (2 ^ 8) = ((n / 256 ^ (k + 1) : Nat) : Int) := by
      rw [Int.fdiv_eq_ediv_of_nonneg _ (by decide), Nat.pow_succ, ← Nat.div_div_eq_div_mul]; push_cast; rfl
    rw [e]
    refine ⟨⟨rfl, k + 1, by rw [wrap64 _ (by omega) (by omega)]; rfl, by omega⟩, ?_⟩
    show ((x : Int) - IntKind.i64.wrap ((k : Int) + 1)).toNat < ((x : Int) - (k : Int)).toNat
    rw [wrap64 _ (by omega) (by omega)]; omega
  · have hkx : k = x := by omega
    subst hkx
    rw [Nat.div_eq_of_lt hn]
    exact ⟨rfl, Ext.refl _⟩
theorem rencode_spec {ns ws : List Nat} (hv : Wid ws) (hl : ns.length = ws.length) (hf : ∀ (i n x : Nat), ns[i]? = some n → ws[i]? = some x → n < 256 ^ x) {F : List Nat} {w0 w : World} {Γ : List A} (hT : T F w0 w Γ) {g1 g2 : Option Nat} {n1 n2 c1 c2 : Nat} (hn1 : n1 = ns.length) (hn2 : n2 = ws.length)
    (hm1 : rowP 53 1 g1 n1 c1 (u64s ns) ∈ Γ) (hm2 : rowP 3 1 g2 n2 c2 (ints ws) ∈ Γ) :
    Calls Try.prog 82 #[.slice (ptr g1) n1 c1, .slice (ptr g2) n2 c2] w fun e w' => e = .returned (.tuple #[.string (strB (encP ns ws)), .int .i64 0]) ∧ T F w0 w' Γ := by
  subst hn1 hn2
  refine (revetmentref03_Encode_calls (R := fun v w' => v = .tuple #[.string (strB (encP ns ws)), .int .i64 0] ∧ T F w0 w' Γ) ?_).mono fun e w' ⟨v, he, hv, h⟩ => ⟨by rw [he, hv], h⟩
  unfold revetmentref03_Encode
  have hs := hv.sum
  have hw64 := hv.1
  refine (rsize_spec hv (T.readsW hT hm2)).mono fun e w1 ⟨he, hx⟩ => ⟨_, _, he, no rfl (no (by simp [hl]) ?_)⟩
  have h1 := hT.quiet hx
  refine Alloc.t h1 fun k24 w2 h2 => ?_
  have h2 : T F w0 w2 (rowP 5 1 (some k24) 0 0 (bvals ((encP ns ws).take 0)) :: Γ) := blk_row h2 rfl rfl (by decide)
  refine ⟨fun vs w' => ∃ (i : Nat) (g : Option Nat) (cap : Nat), vs = [.slice (ptr g) (wsum ws i) cap, .int .i64 (i : Int)] ∧ i ≤ ws.length ∧ T F w0 w' (rowP 5 1 g (wsum ws i) cap (bvals ((encP ns ws).take (wsum ws i))) :: Γ), fun vs _ => match vs with | [_, .int _ i] => (ws.length - i).toNat | _ => 0, ⟨0, some k24, 0, rfl, by omega, h2⟩, ?_⟩
  rintro vs w3 ⟨i, g, cap, rfl, hi, h3⟩
  refine ⟨_, _, _, _, rfl, dec_t fun hlt => ?_, dec_f fun hge => ?_⟩
  · have hlt : i < ws.length := by omega
    have hx : ws[i]? = some ws[i] := by simp [hlt]
    have hn : ns[i]? = some (ns[i]'(by omega)) := by simp [hl, hlt]
    generalize ns[i]'(by omega) = v at hn
    generalize ws[i] = x at hx
    have h8 := hv.at hx
    have hst := wsum_step hx
    have hmx := wsum_max (ws := ws) (i + 1)
    obtain ⟨b1, rfl, _, _⟩ := T.cell1 hT hm1 (u64s_get hn)
    obtain ⟨b2, rfl, _, _⟩ := T.cell1 hT hm2 (ints_get hx)
    have rn : ∀ {w' : World} {Γ' : List A}, T F w0 w' Γ' → rowP 53 1 (some b1) ns.length c1 (u64s ns) ∈ Γ' → w'.cell? (Addr.add ⟨b1, 0, none⟩ ((i : Int).toNat * 1)) = some (.int .u64 (v : Int)) := fun h m => by
      obtain ⟨b', hb', _, hc⟩ := T.cell1 h m (u64s_get hn)
      cases hb'
      rw [Int.toNat_natCast]; exact hc
    have rw_ : ∀ {w' : World} {Γ' : List A}, T F w0 w' Γ' → rowP 3 1 (some b2) ws.length c2 (ints ws) ∈ Γ' → w'.cell? (Addr.add ⟨b2, 0, none⟩ ((i : Int).toNat * 1)) = some (.int .i64 (x : Int)) := fun h m => by
      obtain ⟨b', hb', _, hc⟩ := T.cell1 h m (ints_get hx)
      cases hb'
      rw [Int.toNat_natCast]; exact hc
    refine ⟨fun w' => T F w0 w' (_ :: Γ), h3.drew, _, rfl, by omega, by omega, (v : Int), fun w' hd => rn hd (List.mem_cons_of_mem _ hm1), _, rfl, by omega, by omega, (x : Int), fun w' hd => rw_ hd (List.mem_cons_of_mem _ hm2), ?_⟩
    refine (rfits_spec v x (hf i v x hn hx) h8 _).mono fun e w4 ⟨he, hx4⟩ => ⟨_, he, h3.drew.quiet hx4, no rfl ?_⟩
    have h4 := h3.drew.quiet hx4
    refine ⟨fun vs w' => ∃ (k : Nat) (g : Option Nat) (cap : Nat), vs = [.slice (ptr g) (wsum ws i + k) cap, .int .i64 (k : Int)] ∧ k ≤ x ∧ T F w0 w' (rowP 5 1 g (wsum ws i + k) cap (bvals ((encP ns ws).take (wsum ws i + k))) :: Γ), fun vs _ => match vs with | [_, .int _ k] => (x - k).toNat | _ => 0, ⟨0, g, cap, rfl, by omega, h4⟩, ?_⟩
    rintro vs w5 ⟨k, g', cap', rfl, hk, h5⟩
    refine ⟨_, _, _, _, rfl, _, rfl, by omega, by omega, (x : Int), rw_ h5 (List.mem_cons_of_mem _ hm2), dec_t fun hkl => ?_, dec_f fun hkg => ?_⟩
    · have hk8 : IntKind.i64.wrap (8 * (k : Int)) = ((8 * k : Nat) : Int) := by rw [wrap64 _ (by omega) (by omega)]; omega
      rw [hk8]
      have hbyte : IntKind.u8.wrap (Int.fdiv (v : Int) (2 ^ (min ((8 * k : Nat) : Int).toNat 64))) = ((UInt8.ofNat (v / 2 ^ (8 * k))).toNat : Int) := by
        rw [Int.toNat_natCast, Nat.min_eq_left (by omega), Int.fdiv_eq_ediv_of_nonneg _ (Int.le_of_lt (Int.pow_pos (by decide))), wrap8]
        have : ((v : Int) / 2 ^ (8 * k)) = ((v / 2 ^ (8 * k) : Nat) : Int) := by push_cast; rfl
        rw [this]
        simp
      refine ⟨_, rfl, by omega, by omega, (v : Int), rn h5 (List.mem_cons_of_mem _ hm1), by omega, ?_⟩
      rw [hbyte]
      refine push1_t (i := Try.t5) (z := .int .u8 0) (by kernel_rfl) (by kernel_rfl) (by kernel_rfl) (by kernel_rfl) (by kernel_rfl) (by kernel_rfl) h5 .head rfl (by omega) fun g2 cap2 w7 h7 => ⟨⟨k + 1, g2, cap2, ?_, by omega, ?_⟩, ?_⟩
      · rw [wrap64 _ (by omega) (by omega)]; rfl
      · have e : bvals ((encP ns ws).take (wsum ws i + k)) ++ [.int .u8 ((UInt8.ofNat (v / 2 ^ (8 * k))).toNat : Int)] = bvals ((encP ns ws).take (wsum ws i + (k + 1))) := by
          rw [← Nat.add_assoc, encP_take_step hx hn (by omega), ← bvals_append]; rfl
        rw [e] at h7
        exact h7
      · show ((x : Int) - IntKind.i64.wrap ((k : Int) + 1)).toNat < ((x : Int) - (k : Int)).toNat
        rw [wrap64 _ (by omega) (by omega)]; omega
    · have hkx : k = x := by omega
      subst hkx
      refine ⟨⟨i + 1, g', cap', ?_, by omega, ?_⟩, ?_⟩
      · rw [wrap64 _ (by omega) (by omega), hst]; rfl
      · rw [hst]; exact h5
      · show ((ws.length : Int) - IntKind.i64.wrap ((i : Int) + 1)).toNat < ((ws.length : Int) - (i : Int)).toNat
        rw [wrap64 _ (by omega) (by omega)]; omega
  · have hie : i = ws.length := by omega
    subst hie
    rw [wsum_all ws (Nat.le_refl _)] at h3 ⊢
    rw [List.take_of_length_le (by rw [encP_len ns ws hl]; exact Nat.le_refl _)] at h3
    exact ⟨_, w3, row_string h3 List.mem_cons_self, rfl, h3.drop⟩
theorem rdecode_spec {ws : List Nat} (hv : Wid ws) {s : ByteArray} (hsz : s.size = ws.sum) {F : List Nat} {w0 w : World} {Γ : List A} (hT : T F w0 w Γ) {g2 : Option Nat} {n2 c2 : Nat} (hn2 : n2 = ws.length)
    (hm2 : rowP 3 1 g2 n2 c2 (ints ws) ∈ Γ) :
    Calls Try.prog 97 #[.string s, .slice (ptr g2) n2 c2] w fun e w' => ∃ g cap, e = .returned (.tuple #[.slice (ptr g) ws.length cap, .int .i64 0]) ∧ T F w0 w' (rowP 53 1 g ws.length cap (u64s (decP s.data.toList ws)) :: Γ) := by
  subst hn2
  refine (revetmentref03_Decode_calls (R := fun v w' => ∃ g cap, v = .tuple #[.slice (ptr g) ws.length cap, .int .i64 0] ∧ T F w0 w' (rowP 53 1 g ws.length cap (u64s (decP s.data.toList ws)) :: Γ)) ?_).mono fun e w' ⟨v, he, g, cap, hv, h⟩ => ⟨g, cap, by rw [he, hv], h⟩
  unfold revetmentref03_Decode
  have hs := hv.sum
  have hw64 := hv.1
  have hlen : s.data.toList.length = ws.sum := by rw [Array.length_toList]; exact hsz
  have hdl : (decP s.data.toList ws).length = ws.length := decP_len _ ws
  refine (rsize_spec hv (T.readsW hT hm2)).mono fun e w1 ⟨he, hx⟩ => ⟨_, _, he, no rfl (no (by rw [hsz]; simp) ?_)⟩
  have h1 := hT.quiet hx
  refine Alloc.t h1 fun k25 w2 h2 => ?_
  have h2 : T F w0 w2 (rowP 53 1 (some k25) 0 0 (u64s ((decP s.data.toList ws).take 0)) :: Γ) := blk_row h2 rfl rfl (by decide)
  refine ⟨fun vs w' => ∃ (i : Nat) (g : Option Nat) (cap : Nat), vs = [.slice (ptr g) i cap, .int .i64 (wsum ws i : Int), .int .i64 (i : Int)] ∧ i ≤ ws.length ∧ T F w0 w' (rowP 53 1 g i cap (u64s ((decP s.data.toList ws).take i)) :: Γ), fun vs _ => match vs with | [_, _, .int _ i] => (ws.length - i).toNat | _ => 0, ⟨0, some k25, 0, rfl, by omega, h2⟩, ?_⟩
  rintro vs w3 ⟨i, g, cap, rfl, hi, h3⟩
  refine ⟨_, _, _, _, _, rfl, dec_t fun hlt => ?_, dec_f fun hge => ?_⟩
  · have hlt : i < ws.length := by omega
    have hx : ws[i]? = some ws[i] := by simp [hlt]
    generalize ws[i] = x at hx
    have h8 := hv.at hx
    have hst := wsum_step hx
    have hmx := wsum_max (ws := ws) (i + 1)
    obtain ⟨b2, rfl, _, _⟩ := T.cell1 hT hm2 (ints_get hx)
    have rw_ : ∀ {w' : World} {Γ' : List A}, T F w0 w' Γ' → rowP 3 1 (some b2) ws.length c2 (ints ws) ∈ Γ' → w'.cell? (Addr.add ⟨b2, 0, none⟩ ((i : Int).toNat * 1)) = some (.int .i64 (x : Int)) := fun h m => by
      obtain ⟨b', hb', _, hc⟩ := T.cell1 h m (ints_get hx)
      cases hb'
      rw [Int.toNat_natCast]; exact hc
    refine ⟨fun vs w' => w' = w3 ∧ ∃ k : Nat, vs = [.int .u64 (curP s.data.toList ws (wsum ws i + k) i : Int), .int .i64 (k : Int)] ∧ k ≤ x, fun vs _ => match vs with | [_, .int _ k] => (x - k).toNat | _ => 0, ⟨rfl, 0, ?_, by omega⟩, ?_⟩
    · have : curP s.data.toList ws (wsum ws i + 0) i = 0 := by simp [curP, leN]
      rw [this]; rfl
    rintro vs w4 ⟨rfl, k, rfl, hk⟩
    refine ⟨_, _, rfl, _, rfl, by omega, by omega, (x : Int), rw_ h3 (List.mem_cons_of_mem _ hm2), dec_t fun hkl => ?_, dec_f fun hkg => ?_⟩
    · have hkl : k < x := by omega
      have hb : s.data.toList[wsum ws i + k]? = some (s.data.toList[wsum ws i + k]'(by omega)) := by simp
      generalize s.data.toList[wsum ws i + k]'(by omega) = b at hb
      obtain ⟨hst2, hlt2⟩ := curP_step hx hkl hb
      have hbb := b.toNat_lt
      have hp : (256 : Nat) ^ k = 2 ^ (8 * k) := by rw [Nat.pow_mul]
      rw [hp] at hst2 hlt2
      have hval : curP s.data.toList ws (wsum ws i + k) i + b.toNat * 2 ^ (8 * k) < 18446744073709551616 := by
        have h1 : b.toNat * 2 ^ (8 * k) ≤ 255 * 2 ^ (8 * k) := Nat.mul_le_mul_right _ (by omega)
        have h2 : (2 : Nat) ^ (8 * k) ≤ 2 ^ 56 := Nat.pow_le_pow_right (by decide) (by omega)
        have h3 : (2 : Nat) ^ 56 = 72057594037927936 := by decide
        omega
      have hk8 : IntKind.i64.wrap (8 * (k : Int)) = ((8 * k : Nat) : Int) := by rw [wrap64 _ (by omega) (by omega)]; omega
      have hwr : IntKind.u64.wrap (IntKind.u64.wrap ((b.toNat : Nat) : Int) * 2 ^ (min ((8 * k : Nat) : Int).toNat 64)) = ((b.toNat * 2 ^ (8 * k) : Nat) : Int) := by
        rw [Int.toNat_natCast, Nat.min_eq_left (by omega)]
        have e1 : IntKind.u64.wrap ((b.toNat : Nat) : Int) = ((b.toNat : Nat) : Int) := by rw [wrapU64]; omega
        have e2 : ((b.toNat : Nat) : Int) * 2 ^ (8 * k) = ((b.toNat * 2 ^ (8 * k) : Nat) : Int) := by push_cast; rfl
        rw [e1, e2, wrapU64]; omega
      have hor := or64 hlt2 hval
      have hat : IntKind.i64.wrap ((wsum ws i : Int) + (k : Int)) = ((wsum ws i + k : Nat) : Int) := by rw [wrap64 _ (by omega) (by omega)]; omega
      have hix := index_str (P := Try.prog) (t := 9) (k := .i64) (n := ((wsum ws i + k : Nat) : Int)) (s := s) (w := w4) (by kernel_rfl) (by omega) (by omega)
      rw [Int.toNat_natCast] at hix
      have hgd : s.data.toList.getD (wsum ws i + k) 0 = b := by simp [List.getD, hb]
      rw [hgd] at hix
      rw [hat, hk8]
      refine ⟨_, w4, hix, by omega, ?_⟩
      rw [hwr, hor, ← hst2]
      refine ⟨⟨rfl, k + 1, ?_, by omega⟩, ?_⟩
      · rw [wrap64 _ (by omega) (by omega)]; rfl
      · show ((x : Int) - IntKind.i64.wrap ((k : Int) + 1)).toNat < ((x : Int) - (k : Int)).toNat
        rw [wrap64 _ (by omega) (by omega)]; omega
    · have hkx : k = x := by omega
      subst hkx
      have hget : (decP s.data.toList ws)[i]? = some (curP s.data.toList ws (wsum ws i + k) i) := by
        rw [decP_get ws s.data.toList i k hx]
        have : ws.getD i 0 = k := by simp [List.getD, hx]
        unfold curP
        rw [this, Nat.add_sub_cancel_left, Nat.min_self]
      refine push1_t (i := Try.t53) (z := .int .u64 0) (by kernel_rfl) (by kernel_rfl) (by kernel_rfl) (by kernel_rfl) (by kernel_rfl) (by kernel_rfl) h3 .head rfl (by omega) fun g3 cap3 w7 h7 => ?_
      rw [u64s_take _ _ _ hget] at h7
      refine ⟨_, rfl, by omega, by omega, (k : Int), rw_ h7 (List.mem_cons_of_mem _ hm2), ⟨i + 1, g3, cap3, ?_, by omega, h7⟩, ?_⟩
      · rw [wrap64 _ (by omega) (by omega), wrap64 _ (by omega) (by omega), hst]
        simp
      · show ((ws.length : Int) - IntKind.i64.wrap ((i : Int) + 1)).toNat < ((ws.length : Int) - (i : Int)).toNat
        rw [wrap64 _ (by omega) (by omega)]; omega
  · have hie : i = ws.length := by omega
    subst hie
    rw [List.take_of_length_le (by omega)] at h3
    exact ⟨g, cap, rfl, h3⟩
end Go.Proofs.Ytdppllkjibfjcaa
end
section
/-! The reference's super: Encode, Decode, of anything. -/
namespace Go.Proofs.Ytdppllkjibfjcaa
open Go.Sh Go.RowKit
set_option linter.unusedVariables false
set_option linter.unusedSimpArgs false
set_option maxRecDepth 20000
set_option maxHeartbeats 1000000
theorem rwidths_spec {F : List Nat} {w0 w : World} {Γ : List A} (hT : T F w0 w Γ) :
    Calls Try.prog 83 #[] w fun e w' => ∃ k, e = .returned (.slice (ptr (some k)) 11 11) ∧ T F w0 w' (rowP 3 1 (some k) 11 11 (ints supW) :: Γ) := by
  refine (revetmentref08_widths_calls (R := fun v w' => ∃ k, v = .slice (ptr (some k)) 11 11 ∧ T F w0 w' (rowP 3 1 (some k) 11 11 (ints supW) :: Γ)) ?_).mono fun e w' ⟨v, he, k, hv, h⟩ => ⟨k, by rw [he, hv], h⟩
  unfold revetmentref08_widths
  exact Alloc.t hT fun k w1 h1 => ⟨k, rfl, blk_row h1 rfl rfl (by decide)⟩
theorem rsencodeF_spec {a : SupV} (hu64 : U64S a) (w : World) : Ret Try.prog 67 #[.agg (supC a)] w (.tuple #[.string (strB (encF a).1), .int .i64 (encF a).2]) := by
  refine ret_of (revetmentref08_Encode_calls ?_)
  unfold revetmentref08_Encode
  refine Alloc.t (T.nil w) fun k1 w1 h1 => ?_
  have h1 : T [] w w1 [blk k1 (supC a) 76] := h1
  refine rd10 h1 List.mem_cons_self ?_
  refine (rmay_spec a w1).mono fun e w2 ⟨he, hx2⟩ => ⟨_, he, fun e => ?_, fun e => ?_⟩
  · have hn : ¬ MayF a := of_decide_eq_false (nott e)
    unfold encF
    rw [if_neg hn]
    exact ⟨rfl, (h1.quiet hx2).chg.ext⟩
  have hm : MayF a := of_decide_eq_true (notf e)
  have h := hm.rng hu64
  unfold encF
  rw [if_pos hm]
  have h2 := h1.quiet hx2
  refine Join.intro fun J hJ => ?_
  have hu : (((a.uuid.toNat : Nat) : Int)) = a.uuid := by have := h.uuid; omega
  have hv : (((a.events.toNat : Nat) : Int)) = a.events := by have := h.events; omega
  have e : ∀ x : Int, 0 ≤ x ∧ x < 65536 → IntKind.u64.wrap x = ((x.toNat : Nat) : Int) := by intro x hx; rw [wrapU64]; omega
  have b1 := h.role; have b2 := h.cols; have b3 := h.chunk; have b4 := h.rows; have b5 := h.built; have b6 := h.new; have b7 := h.grown
  have hcells : #[Value.int .u64 827610706, .int .u64 a.uuid, .int .u64 a.events, .int .u64 (IntKind.u64.wrap a.role), .int .u64 (IntKind.u64.wrap a.cols), .int .u64 (IntKind.u64.wrap a.chunk), .int .u64 (IntKind.u64.wrap a.rows), .int .u64 (((if a.clean then 1 else 0 : Nat) : Nat) : Int), .int .u64 (IntKind.u64.wrap a.built), .int .u64 (IntKind.u64.wrap a.new), .int .u64 (IntKind.u64.wrap a.grown)].toList = u64s (fieldsS a) := by
    rw [e a.role (by omega), e a.cols (by omega), e a.chunk (by omega), e a.rows (by omega), e a.built (by omega), e a.new (by omega), e a.grown (by omega)]
    conv => lhs; rw [← hu, ← hv]
    rfl
  have fin : ∀ {w5 : World} {Γ : List A} {g1 g2 : Option Nat} {c1 c2 : Nat}, T [] w w5 Γ → rowP 53 1 g1 11 c1 (u64s (fieldsS a)) ∈ Γ → rowP 3 1 g2 11 c2 (ints supW) ∈ Γ → blk k1 (supC a) 76 ∈ Γ →
      Calls Try.prog 82 #[.slice (ptr g1) 11 c1, .slice (ptr g2) 11 c2] w5 fun e w6 => ∃ (s : ByteArray) (n : Int), e = .returned (.tuple #[.string s, .int .i64 n]) ∧ (∃ Γ, T [] w w6 Γ ∧ blk k1 (supC a) 76 ∈ Γ) ∧
        Calls Try.prog 84 #[.string s, .int .i64 64] w6 fun e w7 => ∃ (s : ByteArray) (b : Bool), e = .returned (.tuple #[.string s, .bool b]) ∧ RetR w (.tuple #[.string (strB (encS a)), .int .i64 0]) (.tuple #[.string s, .int .i64 0]) w7 := by
    intro w5 Γ g1 g2 c1 c2 h5 m1 m2 m3
    refine (rencode_spec supW_wid (fieldsS_len a) (fitsL_get (fieldsS_fit h)) h5 (g1 := g1) (g2 := g2) (n1 := 11) (n2 := 11) (c1 := c1) (c2 := c2) rfl rfl m1 m2).mono fun e w6 ⟨he, h6⟩ => ⟨_, _, he, ⟨Γ, h6, m3⟩, ?_⟩
    refine (rseal_spec (strB (packS a)) 64 (by rw [strB_size, packS_len]; omega) (by omega) w6).mono fun e w7 ⟨he, hx⟩ => ⟨_, _, he, rfl, (h6.quiet hx).chg.ext⟩
  have main : ∀ w3, T [] w w3 [blk k1 (supC a) 76] → J [.int .u64 (((if a.clean then 1 else 0 : Nat) : Nat) : Int)] w3 := by
    intro w3 h3
    have rd : ∀ {w' : World} {j : Nat} {v : Value}, (∃ Γ, T [] w w' Γ ∧ blk k1 (supC a) 76 ∈ Γ) → (supC a)[j]? = some v → w'.cell? ⟨k1, j, none⟩ = some v := fun ⟨Γ, hd, hm⟩ hj => hd.ld hm hj
    refine hJ _ _ ⟨_, rfl, fun w' => ∃ Γ, T [] w w' Γ ∧ blk k1 (supC a) 76 ∈ Γ, ⟨_, h3.drew, List.mem_cons_self⟩, _, fun w' hd => rd hd rfl, _, fun w' hd => rd hd rfl, _, fun w' hd => rd hd rfl, _, fun w' hd => rd hd rfl, _, fun w' hd => rd hd rfl, _, fun w' hd => rd hd rfl, _, fun w' hd => rd hd rfl, _, fun w' hd => rd hd rfl, _, fun w' hd => rd hd rfl, ?_, ?_⟩
    · refine Alloc.t h3.drew fun k44 w4 h4 => ⟨⟨_, h4, (by repeat (first | exact List.Mem.head _ | refine List.Mem.tail _ ?_))⟩, ?_⟩
      have h4 : T [] w w4 (rowP 53 1 (some k44) 11 11 (u64s (fieldsS a)) :: [blk k1 (supC a) 76]) := blk_row h4 hcells rfl (by decide)
      refine (rwidths_spec h4).mono fun e w5 ⟨k, he, h5⟩ => ⟨_, _, _, he, ⟨_, h5, (by repeat (first | exact List.Mem.head _ | refine List.Mem.tail _ ?_))⟩, ?_⟩
      exact fin h5 (g1 := some k44) (g2 := some k) (by repeat (first | exact List.Mem.head _ | refine List.Mem.tail _ ?_)) (by repeat (first | exact List.Mem.head _ | refine List.Mem.tail _ ?_)) (by repeat (first | exact List.Mem.head _ | refine List.Mem.tail _ ?_))
    · refine (rwidths_spec h3.drew).mono fun e w5 ⟨k, he, h5⟩ => ⟨_, _, _, he, ⟨_, h5, (by repeat (first | exact List.Mem.head _ | refine List.Mem.tail _ ?_))⟩, ?_⟩
      refine Alloc.t h5 fun k44 w4 h4 => ⟨⟨_, h4, (by repeat (first | exact List.Mem.head _ | refine List.Mem.tail _ ?_))⟩, ?_⟩
      have h4 : T [] w w4 (rowP 53 1 (some k44) 11 11 (u64s (fieldsS a)) :: rowP 3 1 (some k) 11 11 (ints supW) :: [blk k1 (supC a) 76]) := blk_row h4 hcells rfl (by decide)
      exact fin h4 (g1 := some k44) (g2 := some k) (by repeat (first | exact List.Mem.head _ | refine List.Mem.tail _ ?_)) (by repeat (first | exact List.Mem.head _ | refine List.Mem.tail _ ?_)) (by repeat (first | exact List.Mem.head _ | refine List.Mem.tail _ ?_))
  refine ⟨a.clean, h2.ld (by repeat (first | exact List.Mem.head _ | refine List.Mem.tail _ ?_)) rfl, fun hc => ?_, fun hc => ?_⟩
  · have := main w2 h2
    rw [hc] at this
    exact this
  · have := main w2 h2
    rw [hc] at this
    exact this
theorem rdecodeF_spec (s : ByteArray) (w : World) : Ret Try.prog 85 #[.string s] w (.tuple #[.agg (supC (decF s.data.toList).1), .int .i64 (decF s.data.toList).2]) := by
  refine ret_of (revetmentref08_Decode_calls ?_)
  unfold revetmentref08_Decode
  have hl : s.data.toList.length = s.size := Array.length_toList
  refine Alloc.t (T.nil w) fun k2 w1 h1 => ?_
  have h1 : T [] w w1 [blk k2 (supC sup0) 76] := h1
  by_cases h64 : s.size = 64
  case neg =>
    unfold decF
    rw [if_neg (by rw [hl]; exact h64)]
    refine yes (by simp; omega) ?_
    exact st10 (a := sup0) (b := sup0) h1 fun w15 h15 => rd10 h15 (k := k2) (t := 76) (by repeat (first | exact List.Mem.head _ | refine List.Mem.tail _ ?_)) ⟨rfl, h15.chg.ext⟩
  unfold decF
  rw [h64] at hl
  rw [if_pos hl]
  refine no (by rw [h64]; rfl) ?_
  refine (ropen_spec s (by omega) w1).mono fun e w2 ⟨he, hx2⟩ => ⟨_, _, he, ?_⟩
  have h2 := h1.quiet hx2
  cases ho : (openB s.data.toList).2 with
  | false =>
    rw [if_neg (by decide)]
    refine yes rfl ?_
    exact st10 (a := sup0) (b := sup0) h2 fun w15 h15 => rd10 h15 (k := k2) (t := 76) (by repeat (first | exact List.Mem.head _ | refine List.Mem.tail _ ?_)) ⟨rfl, h15.chg.ext⟩
  | true =>
  rw [if_pos rfl]
  refine no rfl ?_
  rw [open_take hl ho]
  have hp60 : (strB (s.data.toList.take 60)).size = 60 := by rw [strB_size, List.length_take]; omega
  have hsl : ∀ w', (Instr.sliceAt 9 (.string (strB (s.data.toList.take 60))) none (some (.int .i64 31)) none).run Try.prog w' = .ok (.string (strB (s.data.toList.take 31))) w' := fun w' => by
    rw [slice_to (by kernel_rfl) (by omega) (by rw [hp60]; omega)]
    rw [show (31 : Int).toNat = 31 from rfl, strB_extract, List.drop_zero, Nat.sub_zero, List.take_take]
    rfl
  refine ⟨fun _ => True, trivial, _, fun w' _ => hsl w', ?_⟩
  refine (rwidths_spec h2.drew).mono fun e w3 ⟨g, he, h3⟩ => ⟨_, _, _, he, trivial, ?_⟩
  refine (rdecode_spec supW_wid (s := strB (s.data.toList.take 31)) (by rw [strB_size, List.length_take, hl]; rfl) h3 (g2 := some g) (n2 := 11) (c2 := 11) rfl List.mem_cons_self).mono fun e w5 ⟨gb, cb, he, h5⟩ => ⟨_, _, _, _, he, trivial, ?_⟩
  have hll : (decP (s.data.toList.take 31) supW).length = 11 := decP_len _ supW
  have hlf : fitsL (decP (s.data.toList.take 31) supW) supW := decP_fits _ _
  have h5 : T [] w w5 (rowP 53 1 gb 11 cb (u64s (decP (s.data.toList.take 31) supW)) :: rowP 3 1 (some g) 11 11 (ints supW) :: [blk k2 (supC sup0) 76]) := h5
  generalize decP (s.data.toList.take 31) supW = l at hll hlf h5
  obtain ⟨b, rfl⟩ := rowP.pos (h5.says List.mem_cons_self) (by omega)
  have rdF : ∀ {w' : World} {Γ' : List A} {i : Nat}, i < 11 → T [] w w' Γ' → rowP 53 1 (some b) 11 cb (u64s l) ∈ Γ' → w'.cell? ⟨b, i, none⟩ = some (.int .u64 ((l.getD i 0 : Nat) : Int)) := fun {w' Γ' i} hi hT hm => rowP.cell (hT.says hm) (u64s_get (by simp [List.getD, hll, hi]))
  obtain ⟨hb1, hb2, hb3⟩ := fits11 hll hlf
  by_cases hmg : l.getD 0 0 = 827610706
  case neg =>
    rw [if_neg hmg]
    refine ⟨_, rfl, by omega, by show (0 : Int) < 11; omega, _, rdF (by omega) h5 (by repeat (first | exact List.Mem.head _ | refine List.Mem.tail _ ?_)) (i := 0), yes (by simp only [bne_iff_ne, ne_eq]; omega) ?_⟩
    have h6 : T [] w w5 (blk k2 (supC sup0) 76 :: _) := h5.swap (Pick.perm (.tail (.tail .head)))
    exact st10 (a := sup0) (b := sup0) h6 fun w15 h15 => rd10 h15 (k := k2) (t := 76) (by repeat (first | exact List.Mem.head _ | refine List.Mem.tail _ ?_)) ⟨rfl, h15.chg.ext⟩
  rw [if_pos hmg]
  refine ⟨_, rfl, by omega, by show (0 : Int) < 11; omega, _, rdF (by omega) h5 (by repeat (first | exact List.Mem.head _ | refine List.Mem.tail _ ?_)) (i := 0), no (by rw [hmg]; rfl) ?_⟩
  have rdD : ∀ {i : Nat}, i < 11 → ∀ w', (∃ Γ, T [] w w' Γ ∧ rowP 53 1 (some b) 11 cb (u64s l) ∈ Γ) → w'.cell? (Addr.add ⟨b, 0, none⟩ i) = some (.int .u64 ((l.getD i 0 : Nat) : Int)) := fun {i} hi w' ⟨Γ, hd, hm⟩ => by
    rw [addr_add, Nat.zero_add]; exact rdF hi hd hm
  refine ⟨fun w' => ∃ Γ, T [] w w' Γ ∧ rowP 53 1 (some b) 11 cb (u64s l) ∈ Γ, ⟨_, h5.drew, (by repeat (first | exact List.Mem.head _ | refine List.Mem.tail _ ?_))⟩, ?_⟩
  refine ⟨_, rfl, by omega, by show (1 : Int) < 11; omega, _, rdD (i := 1) (by omega), _, rfl, by omega, by show (2 : Int) < 11; omega, _, rdD (i := 2) (by omega), _, rfl, by omega, by show (3 : Int) < 11; omega, _, rdD (i := 3) (by omega), _, rfl, by omega, by show (4 : Int) < 11; omega, _, rdD (i := 4) (by omega), _, rfl, by omega, by show (5 : Int) < 11; omega, _, rdD (i := 5) (by omega), _, rfl, by omega, by show (6 : Int) < 11; omega, _, rdD (i := 6) (by omega), _, rfl, by omega, by show (7 : Int) < 11; omega, _, rdD (i := 7) (by omega), _, rfl, by omega, by show (8 : Int) < 11; omega, _, rdD (i := 8) (by omega), _, rfl, by omega, by show (9 : Int) < 11; omega, _, rdD (i := 9) (by omega), _, rfl, by omega, by show (10 : Int) < 11; omega, _, rdD (i := 10) (by omega), ?_⟩
  have e : ∀ i, 3 ≤ i → IntKind.i64.wrap ((l.getD i 0 : Nat) : Int) = ((l.getD i 0 : Nat) : Int) := fun i hi => by have := hb3 i hi; exact wrap64 _ (by omega) (by omega)
  have hcl : (((l.getD 7 0 : Nat) : Int) == 1) = (supL l).clean := by
    show (((l.getD 7 0 : Nat) : Int) == 1) = (l.getD 7 0 == 1)
    rw [Bool.eq_iff_iff, beq_iff_eq, beq_iff_eq]; omega
  rw [e 3 (by omega), e 4 (by omega), e 5 (by omega), e 6 (by omega), e 8 (by omega), e 9 (by omega), e 10 (by omega), hcl]
  refine Alloc.t h5.drew fun k8 w6 h6 => ⟨⟨_, h6, (by repeat (first | exact List.Mem.head _ | refine List.Mem.tail _ ?_))⟩, ?_⟩
  refine st10 (a := sup0) (b := supL l) h6 fun w12 h12 => rd10 h12 (k := k8) (t := 76) (by repeat (first | exact List.Mem.head _ | refine List.Mem.tail _ ?_)) ?_
  refine (rsencodeF_spec (supL_u64 hll hlf) w12).mono fun e w13 ⟨he, hx13⟩ => ⟨_, _, he, ?_⟩
  have h13 := h12.quiet hx13
  have h14 := h13.swap (Pick.perm (a := blk k2 (supC sup0) 76) (.tail (.tail (.tail .head))))
  refine ⟨bne_t fun hc => ?_, bne_f fun hc => ⟨fun hb => ?_, fun hb => ?_⟩⟩
  · rw [if_neg (fun e => hc (by rw [e]))]
    exact st10 (a := sup0) (b := sup0) h14 fun w15 h15 => rd10 h15 (k := k2) (t := 76) (by repeat (first | exact List.Mem.head _ | refine List.Mem.tail _ ?_)) ⟨rfl, h15.chg.ext⟩
  · rw [if_neg (fun e => by
      have : strB (encF (supL l)).1 = s := by rw [e]
      rw [this] at hb
      simp at hb)]
    exact st10 (a := sup0) (b := sup0) h14 fun w15 h15 => rd10 h15 (k := k2) (t := 76) (by repeat (first | exact List.Mem.head _ | refine List.Mem.tail _ ?_)) ⟨rfl, h15.chg.ext⟩
  · have hb' : strB (encF (supL l)).1 = s := bytes_inj (by simpa using hb)
    have hq : (strB (encF (supL l)).1).data.toList = s.data.toList := by rw [hb']
    have he' : encF (supL l) = (s.data.toList, 0) := Prod.ext hq hc
    rw [if_pos he']
    refine rd10 h13 (k := k8) (a := supL l) (t := 76) (by repeat (first | exact List.Mem.head _ | refine List.Mem.tail _ ?_)) ?_
    refine st10 (a := sup0) (b := supL l) h14 fun w15 h15 => rd10 h15 (k := k2) (t := 76) (by repeat (first | exact List.Mem.head _ | refine List.Mem.tail _ ?_)) ⟨rfl, h15.chg.ext⟩
end Go.Proofs.Ytdppllkjibfjcaa
end
section
/-! The reference's slots: One, Load, Save, Next; its superblocks compared. -/
namespace Go.Proofs.Ytdppllkjibfjcaa
open Go.Sh Go.RowKit
set_option linter.unusedVariables false
set_option linter.unusedSimpArgs false
set_option maxRecDepth 20000
set_option maxHeartbeats 1000000
theorem rsupFields : (Try.prog.fieldsOf 76).toList = [Field.mk "UUID" 53 0 false "" "" 0, Field.mk "Events" 53 1 false "" "" 8, Field.mk "Role" 3 2 false "" "" 16, Field.mk "Geo" 56 3 false "" "" 24,
  Field.mk "Clean" 4 6 false "" "" 48, Field.mk "Built" 3 7 false "" "" 56, Field.mk "New" 3 8 false "" "" 64, Field.mk "Grown" 3 9 false "" "" 72] := by kernel_rfl
theorem requal_sup (d : Nat) (a b : SupV) (w : World) : (Op.equalIn (d + 3) 76 (.agg (supC a)) (.agg (supC b))).run Try.prog w = .ok (decide (a = b)) w := by
  rw [← equal_sup d a b w, run_equalIn_agg w (d + 2) 76 _ _ (by kernel_rfl) (by kernel_rfl), run_equalIn_agg w (d + 2) 58 _ _ (by kernel_rfl) (by kernel_rfl), rsupFields, supFields]
theorem reql_sup (a b : SupV) (x y : Operand) (w : World) : (do eqGuard .eql 76 x y (.agg (supC a)) (.agg (supC b)); binOp .eql 76 (.agg (supC a)) (.agg (supC b)) : Sem Value).run Try.prog w = .ok (.bool (decide (a = b))) w := by
  rw [Sem.run_bind, run_eqGuard_agg _ _ _ _ _ _ _ (by kernel_rfl), Result.andThen_ok, run_eql_struct, requal_sup 9997 a b w]
  rfl
theorem rneq_sup (a b : SupV) (x y : Operand) (w : World) : (do eqGuard .neq 76 x y (.agg (supC a)) (.agg (supC b)); binOp .neq 76 (.agg (supC a)) (.agg (supC b)) : Sem Value).run Try.prog w = .ok (.bool (!decide (a = b))) w := by
  rw [Sem.run_bind, run_eqGuard_agg _ _ _ _ _ _ _ (by kernel_rfl), Result.andThen_ok, run_neq_struct, requal_sup 9997 a b w]
  rfl
section
variable {p : Nat} {a : AD} {F : List Nat} {w0 w : World} {X : List A}
theorem Rf.under (h : Rf p a F w0 w X) : T F w0 w X := by
  obtain ⟨R, h1, h2, hT⟩ := h
  exact T.dropAll hT
theorem Rf.alloc (h : Rf p a F w0 w X) {c : Array Value} {t : TypeId} {K : Nat → World → Prop} (hK : ∀ b w', Rf p a F w0 w' (blk b c t :: X) → K b w') : Alloc c t w K := by
  obtain ⟨R, h1, h2, hT⟩ := h
  exact Alloc.t hT fun b w' hT' => hK b w' ⟨R, h1, h2, hT'.swap List.perm_middle.symm⟩
theorem Rf.st10 {k : Nat} {t : TypeId} {x y : SupV} (h : Rf p a F w0 w (blk k (supC x) t :: X)) {K : World → Prop} (hK : ∀ w', Rf p a F w0 w' (blk k (supC y) t :: X) → K w') :
    St ⟨k, 0, none⟩ (.int .u64 y.uuid) w fun w1 => St ⟨k, 1, none⟩ (.int .u64 y.events) w1 fun w2 => St ⟨k, 2, none⟩ (.int .i64 y.role) w2 fun w3 => St ⟨k, 3, none⟩ (.int .i64 y.cols) w3 fun w4 => St ⟨k, 4, none⟩ (.int .i64 y.chunk) w4 fun w5 => St ⟨k, 5, none⟩ (.int .i64 y.rows) w5 fun w6 =>
      St ⟨k, 6, none⟩ (.bool y.clean) w6 fun w7 => St ⟨k, 7, none⟩ (.int .i64 y.built) w7 fun w8 => St ⟨k, 8, none⟩ (.int .i64 y.new) w8 fun w9 => St ⟨k, 9, none⟩ (.int .i64 y.grown) w9 K := by
  obtain ⟨R, h1, h2, hT⟩ := h
  exact Go.Proofs.Ytdppllkjibfjcaa.st10 (a := x) (b := y) (hT.swap List.perm_middle) fun w' hT' => hK w' ⟨R, h1, h2, hT'.swap List.perm_middle.symm⟩
theorem Rf.st1 {k i : Nat} {c c' : Array Value} {t : TypeId} {v : Value} {K : World → Prop} (h : Rf p a F w0 w (blk k c t :: X)) (hi : i < c.size) (hc : c.setIfInBounds i v = c') (hv : scalar v = true) (hK : ∀ w', Rf p a F w0 w' (blk k c' t :: X) → K w') : St ⟨k, i, none⟩ v w K := by
  obtain ⟨R, h1, h2, hT⟩ := h
  exact St.t (hT.swap List.perm_middle) .head hi hc hv fun w' hT' => hK w' ⟨R, h1, h2, hT'.swap List.perm_middle.symm⟩
theorem Rf.perm {X' : List A} (h : Rf p a F w0 w X) (hp : X.Perm X') : Rf p a F w0 w X' := by
  obtain ⟨R, h1, h2, hT⟩ := h
  exact ⟨R, h1, h2, hT.swap (hp.append_left _)⟩
theorem Rf.dropX {y : A} (h : Rf p a F w0 w (y :: X)) : Rf p a F w0 w X := by
  obtain ⟨R, h1, h2, hT⟩ := h
  exact ⟨R, h1, h2, T.drop (hT.swap List.perm_middle)⟩
theorem Rf.drew (h : Rf p a F w0 w X) : Rf p a F w0 w.drew X := by
  obtain ⟨R, h1, h2, hT⟩ := h
  exact ⟨R, h1, h2, hT.drew⟩
theorem Rf.dead (h : Rf p a F w0 w X) : w.cell? (Addr.add ⟨p, 0, none⟩ 3) = some (.bool a.dead) := by
  obtain ⟨R, rfl, hA, hT⟩ := h
  rw [← hA.dead]
  exact hT.ldA (by repeat (first | exact List.Mem.head _ | refine List.Mem.tail _ ?_)) rfl
theorem rone_spec (h : Rf p a F w0 w X) (hF : a.Few 1000000) (i : Int) : Ret Try.prog 69 #[.pointer (some ⟨p, 0, none⟩), .int .i64 i] w (.tuple #[.agg (supC (slotF a i).1), .bool (slotF a i).2]) := by
  refine ret_of (revetmentref09_One_calls ?_)
  unfold revetmentref09_One
  refine Alloc.t (T.nil w) fun k4 w1 h1 => ?_
  have h1 : T [] w w1 [blk k4 (supC sup0) 76] := h1
  refine (rread_r (h.quiet h1.chg.ext) hF i).mono fun e w2 ⟨he, hx2⟩ => ⟨_, _, he, bne_t fun h0 => ?_, bne_f fun h0 => ?_⟩
  · have : slotF a i = (sup0, false) := if_neg fun h => h0 h.1
    rw [this]
    exact st10 (a := sup0) (b := sup0) (h1.quiet hx2) fun w3 h3 => rd10 h3 (k := k4) (t := 76) (by repeat (first | exact List.Mem.head _ | refine List.Mem.tail _ ?_)) ⟨rfl, h3.chg.ext⟩
  · refine (rdecodeF_spec (a.read i).1 w2).mono fun e w3 ⟨he, hx3⟩ => ⟨_, _, _, _, _, _, _, _, _, _, _, he, ?_⟩
    refine Alloc.t ((h1.quiet hx2).quiet hx3) fun k8 w4 h4 => st10 (a := sup0) (b := (decF (a.read i).1.data.toList).1) h4 fun w5 h5 => ⟨bne_t fun hn => ?_, bne_f fun hn => ?_⟩
    · have : slotF a i = (sup0, false) := if_neg fun h => hn h.2
      rw [this]
      exact st10 (a := sup0) (b := sup0) (h5.swap (.swap _ _ _)) fun w6 h6 => rd10 h6 (k := k4) (t := 76) (by repeat (first | exact List.Mem.head _ | refine List.Mem.tail _ ?_)) ⟨rfl, h6.chg.ext⟩
    · have : slotF a i = ((decF (a.read i).1.data.toList).1, true) := if_pos ⟨h0, hn⟩
      rw [this]
      refine rd10 h5 (k := k8) (t := 76) (by repeat (first | exact List.Mem.head _ | refine List.Mem.tail _ ?_)) ?_
      exact st10 (a := sup0) (b := (decF (a.read i).1.data.toList).1) (h5.swap (.swap _ _ _)) fun w6 h6 => rd10 h6 (k := k4) (t := 76) (by repeat (first | exact List.Mem.head _ | refine List.Mem.tail _ ?_)) ⟨rfl, h6.chg.ext⟩
theorem rload_spec (h : Rf p a F w0 w X) (hF : a.Few 1000000) : Ret Try.prog 68 #[.pointer (some ⟨p, 0, none⟩)] w (.tuple #[.agg (supC (loadF a).1), .int .i64 (loadF a).2]) := by
  refine ret_of (revetmentref09_Load_calls ?_)
  unfold revetmentref09_Load
  refine Alloc.t (T.nil w) fun k2 w1 h1 => ?_
  have h1 : T [] w w1 [blk k2 (supC sup0) 76] := h1
  unfold loadF
  refine ⟨_, rfl, _, (h.quiet h1.chg.ext).dead, fun hd => ?_, fun hd => ?_⟩
  · rw [if_pos hd]
    exact st10 (a := sup0) (b := sup0) h1 fun w3 h3 => rd10 h3 (k := k2) (t := 76) (by repeat (first | exact List.Mem.head _ | refine List.Mem.tail _ ?_)) ⟨rfl, h3.chg.ext⟩
  rw [if_neg (by rw [hd]; decide)]
  refine (rone_spec (h.quiet h1.chg.ext) hF 0).mono fun e w2 ⟨he, hx2⟩ => ⟨_, _, _, _, _, _, _, _, _, _, _, he, ?_⟩
  refine Alloc.t (h1.quiet hx2) fun k4 w3 h3 => st10 (a := sup0) (b := (slotF a 0).1) h3 fun w4 h4 => ?_
  refine (rone_spec (h.quiet h4.chg.ext) hF 1).mono fun e w5 ⟨he, hx5⟩ => ⟨_, _, _, _, _, _, _, _, _, _, _, he, ?_⟩
  refine Alloc.t (h4.quiet hx5) fun k6 w6 h6 => st10 (a := sup0) (b := (slotF a 1).1) h6 fun w7 h7 => ?_
  generalize slotF a 0 = x0 at h7
  generalize slotF a 1 = x1 at h7
  obtain ⟨s0, b0⟩ := x0
  obtain ⟨s1, b1⟩ := x1
  have h7 : T [] w w7 [blk k6 (supC s1) 76, blk k4 (supC s0) 76, blk k2 (supC sup0) 76] := h7
  have h8 := h7.swap (Pick.perm (a := blk k2 (supC sup0) 76) (.tail (.tail .head)))
  refine Join.intro fun J hJ => ?_
  cases b0
  · cases b1
    · refine no rfl (no rfl (no rfl (hJ _ _ ⟨rfl, ?_⟩)))
      exact st10 (a := sup0) (b := sup0) h8 fun w9 h9 => rd10 h9 (k := k2) (t := 76) (by repeat (first | exact List.Mem.head _ | refine List.Mem.tail _ ?_)) ⟨rfl, h9.chg.ext⟩
    · refine no rfl (no rfl (yes rfl (rd10 h7 (k := k6) (a := s1) (t := 76) (by repeat (first | exact List.Mem.head _ | refine List.Mem.tail _ ?_)) ?_)))
      exact st10 (a := sup0) (b := s1) h8 fun w9 h9 => rd10 h9 (k := k2) (t := 76) (by repeat (first | exact List.Mem.head _ | refine List.Mem.tail _ ?_)) ⟨rfl, h9.chg.ext⟩
  · cases b1
    · refine yes rfl (no rfl (yes rfl (rd10 h7 (k := k4) (a := s0) (t := 76) (by repeat (first | exact List.Mem.head _ | refine List.Mem.tail _ ?_)) ?_)))
      exact st10 (a := sup0) (b := s0) h8 fun w9 h9 => rd10 h9 (k := k2) (t := 76) (by repeat (first | exact List.Mem.head _ | refine List.Mem.tail _ ?_)) ⟨rfl, h9.chg.ext⟩
    · have hn : newerS s0 true s1 true = decide (s1.events > s0.events) := rfl
      unfold loadS
      rw [hn]
      refine yes rfl (yes rfl ⟨_, h7.ld (b := k6) (by repeat (first | exact List.Mem.head _ | refine List.Mem.tail _ ?_)) rfl, _, h7.ld (b := k4) (by repeat (first | exact List.Mem.head _ | refine List.Mem.tail _ ?_)) rfl, fun hgt => ?_, fun hgt => yes rfl ?_⟩)
      · rw [if_pos hgt]
        refine rd10 h7 (k := k6) (a := s1) (t := 76) (by repeat (first | exact List.Mem.head _ | refine List.Mem.tail _ ?_)) ?_
        exact st10 (a := sup0) (b := s1) h8 fun w9 h9 => rd10 h9 (k := k2) (t := 76) (by repeat (first | exact List.Mem.head _ | refine List.Mem.tail _ ?_)) ⟨rfl, h9.chg.ext⟩
      · rw [if_neg (by rw [hgt]; decide), if_pos rfl]
        refine rd10 h7 (k := k4) (a := s0) (t := 76) (by repeat (first | exact List.Mem.head _ | refine List.Mem.tail _ ?_)) ?_
        exact st10 (a := sup0) (b := s0) h8 fun w9 h9 => rd10 h9 (k := k2) (t := 76) (by repeat (first | exact List.Mem.head _ | refine List.Mem.tail _ ?_)) ⟨rfl, h9.chg.ext⟩
theorem rsaveF_r (h : Rf p a F w0 w X) (hF : a.Few 999998) {s : SupV} (hu : U64S s) :
    Calls Try.prog 39 #[.pointer (some ⟨p, 0, none⟩), .agg (supC s)] w fun e w' => e = .returned (.int .i64 (saveF a s).2) ∧ Rf p (saveF a s).1 F w0 w' X := by
  refine (revetmentref09_Save_calls (R := fun v w' => v = .int .i64 (saveF a s).2 ∧ Rf p (saveF a s).1 F w0 w' X) ?_).mono fun e w' ⟨v, he, hv, hd⟩ => ⟨by rw [he, hv], hd⟩
  unfold revetmentref09_Save
  refine Alloc.t (T.nil w) fun k3 w1 h1 => ?_
  have h1 : T [] w w1 [blk k3 (supC s) 76] := h1
  refine rd10 h1 List.mem_cons_self ?_
  refine (rsencodeF_spec hu w1).mono fun e w2 ⟨he, hx2⟩ => ⟨_, _, he, ?_⟩
  have h2 := h1.quiet hx2
  have hd2 := h.quiet h2.chg.ext
  unfold saveF
  by_cases hm : MayF s
  case neg =>
    have hen : encF s = ([], 1) := if_neg hm
    rw [hen, if_neg hm]
    exact yes rfl ⟨rfl, hd2⟩
  rw [encF_may hm, if_pos hm]
  refine no rfl ?_
  have he := hu.2
  have hev : IntKind.i64.wrap (Int.tmod s.events 2) = s.events % 2 := by
    rw [Int.tmod_eq_emod_of_nonneg (by omega), wrap64 _ (by omega) (by omega)]
  refine ⟨_, h2.ld List.mem_cons_self rfl, ?_⟩
  rw [hev]
  refine (rwrite_r hd2 (hF.mono (by decide)) (s.events % 2) (strB (encS s))).mono fun e w3 ⟨he, hd3⟩ => ⟨_, he, bne_t fun hp => ?_, bne_f fun hp => ?_⟩
  · rw [if_neg hp]
    have : a.write (s.events % 2) (strB (encS s)) = a := by unfold AD.write; rw [if_pos hp]
    rw [this] at hd3
    exact ⟨rfl, hd3⟩
  · rw [if_pos hp]
    exact (rflush_r hd3 ((hF.write _ _).mono (by decide))).mono fun e w4 ⟨he, hd4⟩ => ⟨_, he, rfl, hd4⟩
theorem rnextF_r (h : Rf p a F w0 w X) (hF : a.Few 999998) {s : SupV} (hu : U64S s) :
    Calls Try.prog 40 #[.pointer (some ⟨p, 0, none⟩), .agg (supC s)] w fun e w' => e = .returned (.tuple #[.agg (supC (nextF a s).1), .int .i64 (nextF a s).2]) ∧ Rf p (saveF a (nextS a s)).1 F w0 w' X := by
  refine (revetmentref09_Next_calls (R := fun v w' => v = .tuple #[.agg (supC (nextF a s).1), .int .i64 (nextF a s).2] ∧ Rf p (saveF a (nextS a s)).1 F w0 w' X) ?_).mono fun e w' ⟨v, he, hv, hd⟩ => ⟨by rw [he, hv], hd⟩
  unfold revetmentref09_Next
  refine Rf.alloc h fun k3 w1 h1 => Rf.alloc h1 fun k4 w2 h2 => ?_
  have h2 : Rf p a F w0 w2 (blk k4 (supC sup0) 76 :: blk k3 (supC s) 76 :: X) := h2
  refine (rload_spec h2 (hF.mono (by decide))).mono fun e w5 ⟨he, hx5⟩ => ⟨_, _, _, _, _, _, _, _, _, _, _, he, ?_⟩
  refine Rf.alloc (h2.quiet hx5) fun k6 w6 h6 => Rf.st10 (x := sup0) (y := (loadF a).1) h6 fun w7 h7 => ⟨_, h7.under.ld (b := k3) (by repeat (first | exact List.Mem.head _ | refine List.Mem.tail _ ?_)) rfl, Join.intro fun J hJ => ?_⟩
  have main : J [.int .u64 (if (loadF a).2 = 0 then (loadF a).1.events else s.events)] w7 := by
    refine hJ _ _ ⟨_, rfl, ?_⟩
    refine Rf.st1 (c' := supC (nextS a s)) (h7.dropX.perm (.swap _ _ _)) (show 1 < 10 by decide) rfl rfl fun w4 h4 => rd10 h4.under (a := nextS a s) (k := k3) (t := 76) (by repeat (first | exact List.Mem.head _ | refine List.Mem.tail _ ?_)) ?_
    refine (rsaveF_r h4 hF (nextS_u64 a hu)).mono fun e w5 ⟨he, h5⟩ => ⟨_, he, ?_⟩
    unfold nextF
    refine ⟨bne_t fun hz => ?_, bne_f fun hz => ?_⟩
    · rw [if_neg hz]
      exact Rf.st10 (x := sup0) (y := sup0) (h5.perm (.swap _ _ _)) fun w6 h6 => rd10 h6.under (a := sup0) (k := k4) (t := 76) (by repeat (first | exact List.Mem.head _ | refine List.Mem.tail _ ?_)) ⟨rfl, h6.dropX.dropX⟩
    · rw [if_pos hz]
      refine rd10 h5.under (a := nextS a s) (k := k3) (t := 76) (by repeat (first | exact List.Mem.head _ | refine List.Mem.tail _ ?_)) ?_
      exact Rf.st10 (x := sup0) (y := nextS a s) (h5.perm (.swap _ _ _)) fun w6 h6 => rd10 h6.under (a := nextS a s) (k := k4) (t := 76) (by repeat (first | exact List.Mem.head _ | refine List.Mem.tail _ ?_)) ⟨rfl, h6.dropX.dropX⟩
  refine ⟨beq_t fun hz => ⟨_, h7.under.ld (b := k6) (by repeat (first | exact List.Mem.head _ | refine List.Mem.tail _ ?_)) rfl, ?_⟩, beq_f fun hz => ?_⟩
  · rw [if_pos hz] at main
    exact main
  · rw [if_neg hz] at main
    exact main
end
end Go.Proofs.Ytdppllkjibfjcaa
end
section
/-! SlotsActs: same. -/
namespace Go.Proofs.Ytdppllkjibfjcaa
open Go.Sh Go.RowKit
set_option linter.unusedVariables false
set_option linter.unusedSimpArgs false
set_option maxRecDepth 20000
set_option maxHeartbeats 1000000
theorem rd10G {D : World → Prop} {k o : Nat} {a : SupV} (h : ∀ w, D w → ∀ j v, (supC a)[j]? = some v → w.cell? ⟨k, o + j, none⟩ = some v) {Q : Int → Int → Int → Int → Int → Int → Bool → Int → Int → Int → Prop} (hQ : Q a.uuid a.events a.role a.cols a.chunk a.rows a.clean a.built a.new a.grown) :
    ∃ n0 : Int, ∃ n1 : Int, ∃ n2 : Int, ∃ n3 : Int, ∃ n4 : Int, ∃ n5 : Int, ∃ n6 : Bool, ∃ n7 : Int, ∃ n8 : Int, ∃ n9 : Int, (∀ w, D w → w.cell? ⟨k, o, none⟩ = some (.int .u64 n0) ∧ w.cell? ⟨k, o + 1, none⟩ = some (.int .u64 n1) ∧ w.cell? ⟨k, o + 2, none⟩ = some (.int .i64 n2) ∧ w.cell? ⟨k, o + 3, none⟩ = some (.int .i64 n3) ∧ w.cell? ⟨k, o + 4, none⟩ = some (.int .i64 n4) ∧ w.cell? ⟨k, o + 5, none⟩ = some (.int .i64 n5) ∧ w.cell? ⟨k, o + 6, none⟩ = some (.bool n6) ∧ w.cell? ⟨k, o + 7, none⟩ = some (.int .i64 n7) ∧ w.cell? ⟨k, o + 8, none⟩ = some (.int .i64 n8) ∧ w.cell? ⟨k, o + 9, none⟩ = some (.int .i64 n9)) ∧ Q n0 n1 n2 n3 n4 n5 n6 n7 n8 n9 :=
  ⟨_, _, _, _, _, _, _, _, _, _, fun w hd => ⟨h w hd 0 _ rfl, h w hd 1 _ rfl, h w hd 2 _ rfl, h w hd 3 _ rfl, h w hd 4 _ rfl, h w hd 5 _ rfl, h w hd 6 _ rfl, h w hd 7 _ rfl, h w hd 8 _ rfl, h w hd 9 _ rfl⟩, hQ⟩
theorem sup2_left {a b : SupV} {j : Nat} {v : Value} (h : (supC a)[j]? = some v) : (sup2C a b)[0 + j]? = some v := by
  have hj : j < 10 := (Array.getElem?_eq_some_iff.1 h).1
  match j, hj with
  | 0, _ => exact h
  | 1, _ => exact h
  | 2, _ => exact h
  | 3, _ => exact h
  | 4, _ => exact h
  | 5, _ => exact h
  | 6, _ => exact h
  | 7, _ => exact h
  | 8, _ => exact h
  | 9, _ => exact h
theorem sup2_right {a b : SupV} {j : Nat} {v : Value} (h : (supC b)[j]? = some v) : (sup2C a b)[10 + j]? = some v := by
  have hj : j < 10 := (Array.getElem?_eq_some_iff.1 h).1
  match j, hj with
  | 0, _ => exact h
  | 1, _ => exact h
  | 2, _ => exact h
  | 3, _ => exact h
  | 4, _ => exact h
  | 5, _ => exact h
  | 6, _ => exact h
  | 7, _ => exact h
  | 8, _ => exact h
  | 9, _ => exact h
theorem same_spec {p q : Nat} {a : AD} {F F' : List Nat} {w0 w0' w : World} {X X' : List A} (hd : Dr p a F w0 w X) (hr : Rf q a F' w0' w X') (hF : a.Few 1000000) : Ret Try.prog 43 #[.pointer (some ⟨p, 0, none⟩), .pointer (some ⟨q, 0, none⟩)] w (.bool true) := by
  refine ret_of (revetmentlaw09_same_calls ?_)
  unfold revetmentlaw09_same
  refine (loadF_spec hd hF).mono fun e w1 ⟨he, hx1⟩ => ⟨_, _, _, _, _, _, _, _, _, _, _, he, ?_⟩
  refine Alloc.t ((T.nil w).quiet hx1) fun k5 w2 h2 => st10 (a := sup0) (b := (loadF a).1) h2 fun w3 h3 => ?_
  refine (rload_spec (hr.quiet h3.chg.ext) hF).mono fun e w4 ⟨he, hx4⟩ => ⟨_, _, _, _, _, _, _, _, _, _, _, he, ?_⟩
  refine Alloc.t (h3.quiet hx4) fun k7 w5 h5 => st10 (a := sup0) (b := (loadF a).1) h5 fun w6 h6 => ?_
  refine (both_spec (hd.quiet h6.chg.ext) hF .any .any).mono fun e w7 ⟨he, hx7⟩ => ⟨_, _, _, _, _, _, _, _, _, _, _, _, _, _, _, _, _, _, _, _, _, _, he, ?_⟩
  refine Alloc.t (h6.quiet hx7) fun k9 w8 h8 => Alloc.t h8 fun k10 w9 h9 => st20 (a := sup0) (b := sup0) (c := (slotF a 0).1) (e := (slotF a 1).1) (h9.swap (Pick.perm (.tail .head))) fun w10 h10 => ?_
  refine St.t (c' := #[.bool (slotF a 0).2, .bool false]) h10 (.tail .head) (show 0 < 2 by decide) rfl rfl fun w11 h11 => St.t (c' := #[.bool (slotF a 0).2, .bool (slotF a 1).2]) h11 (.tail .head) (show 1 < 2 by decide) rfl rfl fun w12 h12 => ?_
  refine ⟨fun vs w' => ∃ i : Nat, vs = [.int .i64 (i : Int)] ∧ i ≤ 2 ∧ T [] w w' [blk k9 (sup2C (slotF a 0).1 (slotF a 1).1) 67, blk k10 #[.bool (slotF a 0).2, .bool (slotF a 1).2] 68, blk k7 (supC (loadF a).1) 76, blk k5 (supC (loadF a).1) 58], fun vs _ => match vs with | [.int _ i] => (2 - i).toNat | _ => 0, ⟨0, rfl, by omega, h12⟩, ?_⟩
  rintro vs w13 ⟨i, rfl, hi, h13⟩
  refine ⟨_, rfl, dec_t fun hlt => ?_, dec_f fun hge => ?_⟩
  · have hi2 : i = 0 ∨ i = 1 := by omega
    have hnx : IntKind.i64.wrap ((i : Int) + 1) = ((i + 1 : Nat) : Int) := by rw [wrap64 _ (by omega) (by omega)]; omega
    refine (rone_spec (hr.quiet h13.chg.ext) hF i).mono fun e w14 ⟨he, hx14⟩ => ⟨_, _, _, _, _, _, _, _, _, _, _, he, ?_⟩
    refine Alloc.t (h13.quiet hx14) fun k12 w15 h15 => st10 (a := sup0) (b := (slotF a i).1) h15 fun w16 h16 => ?_
    refine ⟨fun w' => T [] w w' [blk k12 (supC (slotF a i).1) 76, blk k9 (sup2C (slotF a 0).1 (slotF a 1).1) 67, blk k10 #[.bool (slotF a 0).2, .bool (slotF a 1).2] 68, blk k7 (supC (loadF a).1) 76, blk k5 (supC (loadF a).1) 58], h16.drew, by omega, by omega, ?_⟩
    have fin : ((∃ j : Nat, [Value.int .i64 (IntKind.i64.wrap ((i : Int) + 1))] = [.int .i64 (j : Int)] ∧ j ≤ 2 ∧ T [] w w16.drew [blk k9 (sup2C (slotF a 0).1 (slotF a 1).1) 67, blk k10 #[.bool (slotF a 0).2, .bool (slotF a 1).2] 68, blk k7 (supC (loadF a).1) 76, blk k5 (supC (loadF a).1) 58]) ∧ ((2 : Int) - IntKind.i64.wrap ((i : Int) + 1)).toNat < ((2 : Int) - (i : Int)).toNat) := ⟨⟨i + 1, by rw [hnx], by omega, h16.drew.drop⟩, by rw [hnx]; omega⟩
    rcases hi2 with rfl | rfl
    · simp only [addr_add, Int.toNat_natCast, Nat.zero_mul, Nat.one_mul, Nat.zero_add]
      refine ⟨(slotF a 0).2, fun w' hD => hD.ld (b := k10) (by repeat (first | exact List.Mem.head _ | refine List.Mem.tail _ ?_)) rfl, no (by simp) ⟨by omega, by omega, ?_⟩⟩
      refine rd10G (k := k9) (o := 0) (a := (slotF a 0).1) (fun w' hD j v hv => hD.ld (b := k9) (by repeat (first | exact List.Mem.head _ | refine List.Mem.tail _ ?_)) (sup2_left hv)) ?_
      refine rd10D (k := k12) (a := (slotF a 0).1) (t := 76) (fun w' hD => ⟨_, _, _, hD, (by repeat (first | exact List.Mem.head _ | refine List.Mem.tail _ ?_))⟩) ⟨_, fun w' _ => rneq_sup _ _ _ _ w', no (by simp) fin⟩
    · simp only [addr_add, Int.toNat_natCast, Nat.zero_mul, Nat.one_mul, Nat.zero_add]
      refine ⟨(slotF a 1).2, fun w' hD => hD.ld (b := k10) (by repeat (first | exact List.Mem.head _ | refine List.Mem.tail _ ?_)) rfl, no (by simp) ⟨by omega, by omega, ?_⟩⟩
      refine rd10G (k := k9) (o := 10) (a := (slotF a 1).1) (fun w' hD j v hv => hD.ld (b := k9) (by repeat (first | exact List.Mem.head _ | refine List.Mem.tail _ ?_)) (sup2_right hv)) ?_
      refine rd10D (k := k12) (a := (slotF a 1).1) (t := 76) (fun w' hD => ⟨_, _, _, hD, (by repeat (first | exact List.Mem.head _ | refine List.Mem.tail _ ?_))⟩) ⟨_, fun w' _ => rneq_sup _ _ _ _ w', no (by simp) fin⟩
  · refine rd10 h13 (k := k5) (a := (loadF a).1) (t := 58) (by repeat (first | exact List.Mem.head _ | refine List.Mem.tail _ ?_)) (rd10 h13 (k := k7) (a := (loadF a).1) (t := 76) (by repeat (first | exact List.Mem.head _ | refine List.Mem.tail _ ?_)) ⟨_, _, reql_sup _ _ _ _ _, yes (by simp) ⟨by simp, h13.chg.ext⟩⟩)
end Go.Proofs.Ytdppllkjibfjcaa
end
section
/-! SlotsActs: an act, as it lies; the law. -/
namespace Go.Proofs.Ytdppllkjibfjcaa
open Go.Sh Go.RowKit
set_option linter.unusedVariables false
set_option linter.unusedSimpArgs false
set_option maxRecDepth 20000
set_option maxHeartbeats 2000000
structure SA where
  k : Int
  i : Int
  s : SupV
  b : ByteArray
def actC (b : SA) : Array Value := #[.int .i64 b.k, .int .i64 b.i, .int .u64 b.s.uuid, .int .u64 b.s.events, .int .i64 b.s.role, .int .i64 b.s.cols, .int .i64 b.s.chunk, .int .i64 b.s.rows, .bool b.s.clean, .int .i64 b.s.built, .int .i64 b.s.new, .int .i64 b.s.grown, .string b.b]
theorem st13 {F : List Nat} {w0 w : World} {Γ : List A} {k : Nat} {t : TypeId} {a b : SA} (h0 : T F w0 w (blk k (actC a) t :: Γ)) {K : World → Prop} (hK : ∀ w', T F w0 w' (blk k (actC b) t :: Γ) → K w') :
    St ⟨k, 0, none⟩ (.int .i64 b.k) w fun w1 => St ⟨k, 1, none⟩ (.int .i64 b.i) w1 fun w2 => St ⟨k, 2, none⟩ (.int .u64 b.s.uuid) w2 fun w3 => St ⟨k, 3, none⟩ (.int .u64 b.s.events) w3 fun w4 => St ⟨k, 4, none⟩ (.int .i64 b.s.role) w4 fun w5 => St ⟨k, 5, none⟩ (.int .i64 b.s.cols) w5 fun w6 => St ⟨k, 6, none⟩ (.int .i64 b.s.chunk) w6 fun w7 => St ⟨k, 7, none⟩ (.int .i64 b.s.rows) w7 fun w8 => St ⟨k, 8, none⟩ (.bool b.s.clean) w8 fun w9 => St ⟨k, 9, none⟩ (.int .i64 b.s.built) w9 fun w10 => St ⟨k, 10, none⟩ (.int .i64 b.s.new) w10 fun w11 => St ⟨k, 11, none⟩ (.int .i64 b.s.grown) w11 fun w12 => St ⟨k, 12, none⟩ (.string b.b) w12 K := by
  refine St.t (c' := #[.int .i64 b.k, .int .i64 a.i, .int .u64 a.s.uuid, .int .u64 a.s.events, .int .i64 a.s.role, .int .i64 a.s.cols, .int .i64 a.s.chunk, .int .i64 a.s.rows, .bool a.s.clean, .int .i64 a.s.built, .int .i64 a.s.new, .int .i64 a.s.grown, .string a.b]) h0 .head (show 0 < 13 by decide) rfl rfl fun w1 h1 => ?_
  refine St.t (c' := #[.int .i64 b.k, .int .i64 b.i, .int .u64 a.s.uuid, .int .u64 a.s.events, .int .i64 a.s.role, .int .i64 a.s.cols, .int .i64 a.s.chunk, .int .i64 a.s.rows, .bool a.s.clean, .int .i64 a.s.built, .int .i64 a.s.new, .int .i64 a.s.grown, .string a.b]) h1 .head (show 1 < 13 by decide) rfl rfl fun w2 h2 => ?_
  refine St.t (c' := #[.int .i64 b.k, .int .i64 b.i, .int .u64 b.s.uuid, .int .u64 a.s.events, .int .i64 a.s.role, .int .i64 a.s.cols, .int .i64 a.s.chunk, .int .i64 a.s.rows, .bool a.s.clean, .int .i64 a.s.built, .int .i64 a.s.new, .int .i64 a.s.grown, .string a.b]) h2 .head (show 2 < 13 by decide) rfl rfl fun w3 h3 => ?_
  refine St.t (c' := #[.int .i64 b.k, .int .i64 b.i, .int .u64 b.s.uuid, .int .u64 b.s.events, .int .i64 a.s.role, .int .i64 a.s.cols, .int .i64 a.s.chunk, .int .i64 a.s.rows, .bool a.s.clean, .int .i64 a.s.built, .int .i64 a.s.new, .int .i64 a.s.grown, .string a.b]) h3 .head (show 3 < 13 by decide) rfl rfl fun w4 h4 => ?_
  refine St.t (c' := #[.int .i64 b.k, .int .i64 b.i, .int .u64 b.s.uuid, .int .u64 b.s.events, .int .i64 b.s.role, .int .i64 a.s.cols, .int .i64 a.s.chunk, .int .i64 a.s.rows, .bool a.s.clean, .int .i64 a.s.built, .int .i64 a.s.new, .int .i64 a.s.grown, .string a.b]) h4 .head (show 4 < 13 by decide) rfl rfl fun w5 h5 => ?_
  refine St.t (c' := #[.int .i64 b.k, .int .i64 b.i, .int .u64 b.s.uuid, .int .u64 b.s.events, .int .i64 b.s.role, .int .i64 b.s.cols, .int .i64 a.s.chunk, .int .i64 a.s.rows, .bool a.s.clean, .int .i64 a.s.built, .int .i64 a.s.new, .int .i64 a.s.grown, .string a.b]) h5 .head (show 5 < 13 by decide) rfl rfl fun w6 h6 => ?_
  refine St.t (c' := #[.int .i64 b.k, .int .i64 b.i, .int .u64 b.s.uuid, .int .u64 b.s.events, .int .i64 b.s.role, .int .i64 b.s.cols, .int .i64 b.s.chunk, .int .i64 a.s.rows, .bool a.s.clean, .int .i64 a.s.built, .int .i64 a.s.new, .int .i64 a.s.grown, .string a.b]) h6 .head (show 6 < 13 by decide) rfl rfl fun w7 h7 => ?_
  refine St.t (c' := #[.int .i64 b.k, .int .i64 b.i, .int .u64 b.s.uuid, .int .u64 b.s.events, .int .i64 b.s.role, .int .i64 b.s.cols, .int .i64 b.s.chunk, .int .i64 b.s.rows, .bool a.s.clean, .int .i64 a.s.built, .int .i64 a.s.new, .int .i64 a.s.grown, .string a.b]) h7 .head (show 7 < 13 by decide) rfl rfl fun w8 h8 => ?_
  refine St.t (c' := #[.int .i64 b.k, .int .i64 b.i, .int .u64 b.s.uuid, .int .u64 b.s.events, .int .i64 b.s.role, .int .i64 b.s.cols, .int .i64 b.s.chunk, .int .i64 b.s.rows, .bool b.s.clean, .int .i64 a.s.built, .int .i64 a.s.new, .int .i64 a.s.grown, .string a.b]) h8 .head (show 8 < 13 by decide) rfl rfl fun w9 h9 => ?_
  refine St.t (c' := #[.int .i64 b.k, .int .i64 b.i, .int .u64 b.s.uuid, .int .u64 b.s.events, .int .i64 b.s.role, .int .i64 b.s.cols, .int .i64 b.s.chunk, .int .i64 b.s.rows, .bool b.s.clean, .int .i64 b.s.built, .int .i64 a.s.new, .int .i64 a.s.grown, .string a.b]) h9 .head (show 9 < 13 by decide) rfl rfl fun w10 h10 => ?_
  refine St.t (c' := #[.int .i64 b.k, .int .i64 b.i, .int .u64 b.s.uuid, .int .u64 b.s.events, .int .i64 b.s.role, .int .i64 b.s.cols, .int .i64 b.s.chunk, .int .i64 b.s.rows, .bool b.s.clean, .int .i64 b.s.built, .int .i64 b.s.new, .int .i64 a.s.grown, .string a.b]) h10 .head (show 10 < 13 by decide) rfl rfl fun w11 h11 => ?_
  refine St.t (c' := #[.int .i64 b.k, .int .i64 b.i, .int .u64 b.s.uuid, .int .u64 b.s.events, .int .i64 b.s.role, .int .i64 b.s.cols, .int .i64 b.s.chunk, .int .i64 b.s.rows, .bool b.s.clean, .int .i64 b.s.built, .int .i64 b.s.new, .int .i64 b.s.grown, .string a.b]) h11 .head (show 11 < 13 by decide) rfl rfl fun w12 h12 => ?_
  refine St.t (c' := #[.int .i64 b.k, .int .i64 b.i, .int .u64 b.s.uuid, .int .u64 b.s.events, .int .i64 b.s.role, .int .i64 b.s.cols, .int .i64 b.s.chunk, .int .i64 b.s.rows, .bool b.s.clean, .int .i64 b.s.built, .int .i64 b.s.new, .int .i64 b.s.grown, .string b.b]) h12 .head (show 12 < 13 by decide) rfl rfl fun w13 h13 => ?_
  exact hK w13 h13
structure SAt (w : World) (a : Addr) (x : SA) : Prop where
  at_ : ∀ j v, (actC x)[j]? = some v → w.cell? (a.add j) = some v
  u64 : U64S x.s
def sactsAt (w : World) (p : Option Addr) (l : List SA) : Prop := (l ≠ [] → ∃ a, p = some a) ∧ ∀ a, p = some a → ∀ j x, l[j]? = some x → SAt w (a.add (j * 13)) x
theorem SAt.ext {w w' : World} {a : Addr} {x : SA} (h : SAt w a x) (hx : Ext w w') : SAt w' a x := ⟨fun j v hv => cell_ext hx (h.at_ j v hv), h.u64⟩
theorem sactsAt.get {w w' : World} {p : Option Addr} {l : List SA} (h : sactsAt w p l) (hx : Ext w w') {n : Nat} (h1 : n < l.length) : ∃ a, p = some a ∧ SAt w' (a.add (n * 13)) l[n] := by
  obtain ⟨a, ha⟩ := h.1 (by intro e; subst e; simp at h1)
  exact ⟨a, ha, (h.2 a ha n _ (List.getElem?_eq_getElem h1)).ext hx⟩
theorem rd10O {w : World} {k o : Nat} {a : SupV} (h : ∀ j v, (supC a)[j]? = some v → w.cell? ⟨k, o + j, none⟩ = some v) {Q : Int → Int → Int → Int → Int → Int → Bool → Int → Int → Int → Prop} (hQ : Q a.uuid a.events a.role a.cols a.chunk a.rows a.clean a.built a.new a.grown) :
    ∃ n0 : Int, ∃ n1 : Int, ∃ n2 : Int, ∃ n3 : Int, ∃ n4 : Int, ∃ n5 : Int, ∃ n6 : Bool, ∃ n7 : Int, ∃ n8 : Int, ∃ n9 : Int, (w.cell? ⟨k, o, none⟩ = some (.int .u64 n0) ∧ w.cell? ⟨k, o + 1, none⟩ = some (.int .u64 n1) ∧ w.cell? ⟨k, o + 2, none⟩ = some (.int .i64 n2) ∧ w.cell? ⟨k, o + 3, none⟩ = some (.int .i64 n3) ∧ w.cell? ⟨k, o + 4, none⟩ = some (.int .i64 n4) ∧ w.cell? ⟨k, o + 5, none⟩ = some (.int .i64 n5) ∧ w.cell? ⟨k, o + 6, none⟩ = some (.bool n6) ∧ w.cell? ⟨k, o + 7, none⟩ = some (.int .i64 n7) ∧ w.cell? ⟨k, o + 8, none⟩ = some (.int .i64 n8) ∧ w.cell? ⟨k, o + 9, none⟩ = some (.int .i64 n9)) ∧ Q n0 n1 n2 n3 n4 n5 n6 n7 n8 n9 :=
  ⟨_, _, _, _, _, _, _, _, _, _, ⟨h 0 _ rfl, h 1 _ rfl, h 2 _ rfl, h 3 _ rfl, h 4 _ rfl, h 5 _ rfl, h 6 _ rfl, h 7 _ rfl, h 8 _ rfl, h 9 _ rfl⟩, hQ⟩
theorem act_sup {x : SA} {j : Nat} {v : Value} (h : (supC x.s)[j]? = some v) : (actC x)[2 + j]? = some v := by
  have hj : j < 10 := (Array.getElem?_eq_some_iff.1 h).1
  match j, hj with
  | 0, _ => exact h
  | 1, _ => exact h
  | 2, _ => exact h
  | 3, _ => exact h
  | 4, _ => exact h
  | 5, _ => exact h
  | 6, _ => exact h
  | 7, _ => exact h
  | 8, _ => exact h
  | 9, _ => exact h
theorem byte_at {F : List Nat} {w0 w : World} {Γ : List A} {k : Nat} {b : UInt8} {t : TypeId} (h : T F w0 w Γ) (hm : blk k #[.int .u8 (b.toNat : Int)] t ∈ Γ) : bytesAt w (some ⟨k, 0, none⟩) [b] := by
  refine ⟨fun _ => ⟨_, rfl⟩, fun a ha j b' hj => ?_⟩
  cases ha
  cases j with
  | zero =>
    have : b = b' := by simpa using hj
    subst this
    exact h.ld hm rfl
  | succ j => simp at hj
theorem byte_of (n : Int) : ∃ b : UInt8, IntKind.u8.wrap n = (b.toNat : Int) := by
  refine ⟨UInt8.ofNat (n % 256).toNat, ?_⟩
  rw [wrap8]
  simp
  omega
theorem Two.st13 {p q : Nat} {a : AD} {F : List Nat} {w0 w : World} {X : List A} {k : Nat} {t : TypeId} {x y : SA} (h : Two p q a F w0 w (blk k (actC x) t :: X)) {K : World → Prop} (hK : ∀ w', Two p q a F w0 w' (blk k (actC y) t :: X) → K w') :
    St ⟨k, 0, none⟩ (.int .i64 y.k) w fun w1 => St ⟨k, 1, none⟩ (.int .i64 y.i) w1 fun w2 => St ⟨k, 2, none⟩ (.int .u64 y.s.uuid) w2 fun w3 => St ⟨k, 3, none⟩ (.int .u64 y.s.events) w3 fun w4 => St ⟨k, 4, none⟩ (.int .i64 y.s.role) w4 fun w5 => St ⟨k, 5, none⟩ (.int .i64 y.s.cols) w5 fun w6 => St ⟨k, 6, none⟩ (.int .i64 y.s.chunk) w6 fun w7 => St ⟨k, 7, none⟩ (.int .i64 y.s.rows) w7 fun w8 => St ⟨k, 8, none⟩ (.bool y.s.clean) w8 fun w9 => St ⟨k, 9, none⟩ (.int .i64 y.s.built) w9 fun w10 => St ⟨k, 10, none⟩ (.int .i64 y.s.new) w10 fun w11 => St ⟨k, 11, none⟩ (.int .i64 y.s.grown) w11 fun w12 => St ⟨k, 12, none⟩ (.string y.b) w12 K := by
  obtain ⟨D, R, h1, h2, h3, h4, h5⟩ := h
  exact Go.Proofs.Ytdppllkjibfjcaa.st13 (a := x) (b := y) (h5.swap List.perm_middle) fun w' hT => hK w' ⟨D, R, h1, h2, h3, h4, hT.swap List.perm_middle.symm⟩
theorem Two.same {p q : Nat} {a : AD} {w0 w : World} {X : List A} (h : Two p q a [] w0 w X) (hF : a.Few 1000000) : Ret Try.prog 43 #[.pointer (some ⟨p, 0, none⟩), .pointer (some ⟨q, 0, none⟩)] w (.bool true) := by
  obtain ⟨R, hR1, hR2, hd⟩ := h.one
  obtain ⟨D, _, _, hr⟩ := Two.of_one hR1 hR2 hd
  exact same_spec hd hr hF
theorem acts_spec (l : List SA) (p0 : Option Addr) (c : Nat) (w : World) (hl : sactsAt w p0 l) : Ret Try.prog 11 #[.slice p0 l.length c] w (.bool true) := by
  refine ret_of (revetmentlaw09_SlotsActs_calls ?_)
  unfold revetmentlaw09_SlotsActs
  refine ⟨dec_t fun _ => sshown_end (Ext.refl w), dec_f fun hn => ?_⟩
  refine (sshown_spec w).mono fun e w1 ⟨he, hx1⟩ => ⟨_, he, no rfl ?_⟩
  refine new_u (n := 3) ((T.nil w).quiet hx1) (by omega) fun p w2 h2 => ⟨_, rfl, ?_⟩
  obtain ⟨D, hD1, hD2, hT2⟩ := h2
  refine (rnew_r 3 hT2 (by omega)).mono fun e w3 ⟨q, he, h3⟩ => ⟨_, he, no rfl ?_⟩
  have h3 : Two p q (AD.new 3) [] w w3 [] := Two.make hD1 hD2 h3
  refine ⟨fun vs w' => ∃ (i : Nat) (a : AD), vs = [.int .i64 (i : Int)] ∧ i ≤ l.length ∧ Two p q a [] w w' [] ∧ a.Few i, fun vs _ => match vs with | [.int _ i] => (l.length - i).toNat | _ => 0, ⟨0, AD.new 3, rfl, by omega, h3, few_new _ _⟩, ?_⟩
  rintro vs w4 ⟨i, a, rfl, hi, h4, hF⟩
  refine ⟨_, rfl, dec_t fun hlt => ?_, dec_f fun hge => ?_⟩
  · have hlt : i < l.length := by omega
    have hF6 : a.Few 999998 := hF.mono (by omega)
    have hF7 : a.Few 999999 := hF.mono (by omega)
    obtain ⟨ad, had, hat⟩ := hl.get h4.ext hlt
    generalize l[i] = x at hat
    have cl := hat.at_
    rw [show ((i : Nat) : Int).toNat = i by omega]
    refine ⟨ad, had, by omega, by omega, _, _, _, _, _, _, _, _, _, _, _, _, _, ⟨cl 0 _ rfl, cl 1 _ rfl, cl 2 _ rfl, cl 3 _ rfl, cl 4 _ rfl, cl 5 _ rfl, cl 6 _ rfl, cl 7 _ rfl, cl 8 _ rfl, cl 9 _ rfl, cl 10 _ rfl, cl 11 _ rfl, cl 12 _ rfl⟩, ?_⟩
    refine h4.alloc fun k6 w5 h5 => Two.st13 (x := ⟨0, 0, sup0, noB⟩) (y := x) h5 fun w6 h6 => ?_
    refine ⟨_, h6.under.ld List.mem_cons_self rfl, dec_t fun _ => sshown_end h6.ext, dec_f fun hsz => ?_⟩
    have h7 := h6.drew
    refine ⟨fun w' => T [] w w' [blk k6 (actC x) 74], h7.under, _, fun w' hd => hd.ld List.mem_cons_self rfl, ?_⟩
    refine (blank_spec _).mono fun e_ w8 ⟨he, hx8⟩ => ⟨_, he, h7.under.quiet hx8, by rw [zeroSec_size]; omega, _, fun x0 _ => slice_to (by kernel_rfl) (by omega) (by rw [ByteArray.size_append, zeroSec_size]; omega), ?_⟩
    have h8 := h7.quiet hx8
    refine Join.intro fun J hJ => ?_
    have main : ∀ (b : AD) (w' : World), Two p q b [] w w' [blk k6 (actC x) 74] → b.Few (i + 1) → J [.bool true] w' := by
      intro b w' h9 hFb
      refine hJ _ _ ⟨_, rfl, no rfl ((h9.same (hFb.mono (by omega))).mono fun e w10 ⟨he, hx10⟩ => ⟨_, he, no rfl ⟨⟨i + 1, b, ?_, by omega, (h9.quiet hx10).dropX, hFb⟩, ?_⟩⟩)⟩
      · rw [wrap64 _ (by omega) (by omega)]; rfl
      · show ((l.length : Int) - IntKind.i64.wrap ((i : Int) + 1)).toNat < ((l.length : Int) - (i : Int)).toNat
        rw [wrap64 _ (by omega) (by omega)]; omega
    have rdA : ∀ {w' : World} {Γ : List A}, T [] w w' Γ → blk k6 (actC x) 74 ∈ Γ → ∀ j v, (supC x.s)[j]? = some v → w'.cell? ⟨k6, 2 + j, none⟩ = some v := fun h hm j v hv => h.ld hm (act_sup hv)
    refine ⟨_, h8.under.ld List.mem_cons_self rfl, beq_t fun hk0 => ?_, beq_f fun hk0 => ⟨beq_t fun hk1 => ?_, beq_f fun hk1 => ⟨beq_t fun hk3 => ?_, beq_f fun hk3 => ⟨beq_t fun hk4 => ?_, beq_f fun hk4 => ⟨beq_t fun hk5 => ?_, beq_f fun hk5 => ⟨beq_t fun hk6 => ?_, beq_f fun hk6 => ?_⟩⟩⟩⟩⟩⟩
    · -- Save
      have h9 := h8.drew
      refine ⟨fun w' => T [] w w' [blk k6 (actC x) 74], h9.under, rd10G (k := k6) (o := 2) (a := x.s) (fun w' hd => rdA hd List.mem_cons_self) ?_⟩
      obtain ⟨R, hR1, hR2, hd⟩ := h9.one
      refine (saveF_d hd hF6 hat.u64).mono fun e w10 ⟨he, hd10⟩ => ⟨_, he, T.dropAll hd10.under, rd10G (k := k6) (o := 2) (a := x.s) (fun w' hd => rdA hd List.mem_cons_self) ?_⟩
      obtain ⟨D, hE1, hE2, hr⟩ := Two.of_one hR1 hR2 hd10
      refine (rsaveF_r hr hF6 hat.u64).mono fun e w11 ⟨he, hr11⟩ => ⟨_, he, (Two.make hE1 hE2 hr11).under, ?_⟩
      rw [beq_self_eq_true]
      exact main _ _ (Two.make hE1 hE2 hr11) (saveF_few hF _)
    · -- Next
      refine rd10O (k := k6) (o := 2) (a := x.s) (rdA h8.under List.mem_cons_self) ?_
      obtain ⟨R, hR1, hR2, hd⟩ := h8.one
      refine (nextF_d hd hF6 hat.u64).mono fun e w10 ⟨he, hd10⟩ => ⟨_, _, _, _, _, _, _, _, _, _, _, he, ?_⟩
      refine Dr.alloc hd10 fun k9 w11 h11 => Dr.st10 (x := sup0) (y := (nextF a x.s).1) h11 fun w12 h12 => ?_
      have h12 := h12.perm List.perm_middle.symm
      refine rd10O (k := k6) (o := 2) (a := x.s) (rdA (T.dropAll h12.under) (by repeat (first | exact List.Mem.head _ | refine List.Mem.tail _ ?_))) ?_
      obtain ⟨D, hE1, hE2, hr⟩ := Two.of_one hR1 hR2 h12
      refine (rnextF_r hr hF6 hat.u64).mono fun e w13 ⟨he, hr13⟩ => ⟨_, _, _, _, _, _, _, _, _, _, _, he, ?_⟩
      refine Rf.alloc hr13 fun k11 w14 h14 => Rf.st10 (x := sup0) (y := (nextF a x.s).1) h14 fun w15 h15 => ?_
      refine rd10 h15.under (k := k9) (a := (nextF a x.s).1) (t := 58) (by repeat (first | exact List.Mem.head _ | refine List.Mem.tail _ ?_)) (rd10 h15.under (k := k11) (a := (nextF a x.s).1) (t := 76) (by repeat (first | exact List.Mem.head _ | refine List.Mem.tail _ ?_)) ⟨_, _, reql_sup _ _ _ _ _, yes (by simp) ?_⟩)
      rw [beq_self_eq_true]
      have ht : Two p q (saveF a (nextS a x.s)).1 [] w w15 (_ :: _) := Two.make (X := _ :: _) hE1 hE2 h15
      exact main _ _ ht.dropX.dropX (saveF_few hF _)
    · -- Write
      have h9 := h8.drew
      refine ⟨fun w' => T [] w w' [blk k6 (actC x) 74], h9.under, _, fun w' hd => hd.ld (i := 1) List.mem_cons_self rfl, ?_⟩
      refine Calls.mono (write_2 h9 hF7 x.i _) fun e w10 ⟨he, hT10, hg⟩ => ⟨_, he, hT10, _, fun w' hd => hd.ld (i := 1) List.mem_cons_self rfl, ?_⟩
      refine Calls.mono (hg w10 (.refl _)) fun e w11 ⟨he, h11⟩ => ⟨_, he, h11.under, ?_⟩
      rw [beq_self_eq_true]
      exact main _ _ h11 (hF.write _ _)
    · -- Spoil
      have h9 := h8.drew
      refine ⟨fun w' => T [] w w' [blk k6 (actC x) 74], h9.under, _, fun w' hd => hd.ld (i := 1) List.mem_cons_self rfl, ?_⟩
      refine Calls.mono (spoil_2 h9 x.i) fun e w10 ⟨he, hT10, hg⟩ => ⟨_, he, hT10, _, fun w' hd => hd.ld (i := 1) List.mem_cons_self rfl, ?_⟩
      refine Calls.mono (hg w10 (.refl _)) fun e w11 ⟨he, h11⟩ => ⟨_, he, h11.under, ?_⟩
      rw [beq_self_eq_true]
      exact main _ _ h11 ((hF.spoil _).mono (by omega))
    · -- Crash
      obtain ⟨b, hb⟩ := byte_of x.i
      refine ⟨_, h8.under.ld (i := 1) List.mem_cons_self rfl, ?_⟩
      rw [hb]
      obtain ⟨R, hR1, hR2, hd⟩ := h8.one
      refine Dr.alloc hd fun k112 w10 h10 => ?_
      refine (crash_a h10 (hF.mono (by omega)) [b] (some ⟨k112, 0, none⟩) 1 (by simp) fun w1 hT => byte_at hT List.mem_cons_self).mono fun e w11 ⟨he, h11⟩ => ⟨he, ?_⟩
      refine ⟨_, (T.dropAll h11.dropX.under).ld (i := 1) List.mem_cons_self rfl, ?_⟩
      rw [hb]
      obtain ⟨D, hE1, hE2, hr⟩ := Two.of_one hR1 hR2 h11.dropX
      refine Rf.alloc hr fun k118 w12 h12 => ?_
      refine (rcrash_r h12 (hF.mono (by omega)) [b] (some ⟨k118, 0, none⟩) 1 (by simp) fun w1 hT => byte_at hT List.mem_cons_self).mono fun e w13 ⟨he, h13⟩ => ⟨he, ?_⟩
      exact main _ _ (Two.make hE1 hE2 h13.dropX) fun j => Nat.zero_le _
    · -- Die
      refine (die_2 h8).mono fun e w10 ⟨he, hK⟩ => ⟨he, _, rfl, hK _ fun w11 h11 => main _ _ h11 fun j => Nat.le_succ_of_le (hF j)⟩
    · exact main _ _ h8 (hF.mono (by omega))
  · exact (h4.same (hF.mono (by omega))).mono fun e w5 ⟨he, hx5⟩ => ⟨_, he, rfl, (h4.quiet hx5).ext⟩
end Go.Proofs.Ytdppllkjibfjcaa
end
section
/-! SlotsActs: the acts that the statement is handed. -/
namespace Go.Proofs.Ytdppllkjibfjcaa
open Go.Sh Go.Maps Go.RowKit
set_option linter.unusedVariables false
set_option maxRecDepth 100000
set_option maxHeartbeats 1000000
theorem open_sacts {H : Type} {enc : TypeId × Value → H} {w : World} {v : Value} {d : DataW H} {ps : List MemPlace} {r : Reach} {b0 : Nat} (hval : Value.okWide Try.prog w r b0 72 v) (hd : DataW.Trod enc Try.prog w 0 (fun _ => true) true 72 v d ps) :
    ∃ (p : Option Addr) (c : Nat) (l : List SA), v = .slice p l.length c ∧ sactsAt w p l := by
  have hlv : leaves Try.prog 20 74 = some [(3, 0, 1), (3, 1, 1), (53, 2, 1), (53, 3, 1), (3, 4, 1), (3, 5, 1), (3, 6, 1), (3, 7, 1), (4, 8, 1), (3, 9, 1), (3, 10, 1), (3, 11, 1), (9, 12, 1)] := by kernel_rfl
  obtain ⟨p, len, c, rfl, hp, hat⟩ := open_rows (e := 74) (by kernel_rfl) hlv (C := 13) (by kernel_rfl) hval hd
  have key : ∀ a, p = some a → ∀ j, j < len → ∃ x : SA, SAt w (a.add (j * 13)) x := by
    intro a ha j hj
    obtain ⟨cs, hl, hc, hx⟩ := hat a ha j hj
    obtain ⟨k, e0, _⟩ := leaf_int (k := .i64) (by kernel_rfl) (hx (3, 0, 1) (by simp))
    obtain ⟨i, e1, _⟩ := leaf_int (k := .i64) (by kernel_rfl) (hx (3, 1, 1) (by simp))
    obtain ⟨u, e2, wu⟩ := leaf_int (k := .u64) (by kernel_rfl) (hx (53, 2, 1) (by simp))
    obtain ⟨ev, e3, wv⟩ := leaf_int (k := .u64) (by kernel_rfl) (hx (53, 3, 1) (by simp))
    obtain ⟨ro, e4, _⟩ := leaf_int (k := .i64) (by kernel_rfl) (hx (3, 4, 1) (by simp))
    obtain ⟨co, e5, _⟩ := leaf_int (k := .i64) (by kernel_rfl) (hx (3, 5, 1) (by simp))
    obtain ⟨ch, e6, _⟩ := leaf_int (k := .i64) (by kernel_rfl) (hx (3, 6, 1) (by simp))
    obtain ⟨rw_, e7, _⟩ := leaf_int (k := .i64) (by kernel_rfl) (hx (3, 7, 1) (by simp))
    obtain ⟨cl, e8⟩ := leaf_bool (by kernel_rfl) (hx (4, 8, 1) (by simp))
    obtain ⟨bu, e9, _⟩ := leaf_int (k := .i64) (by kernel_rfl) (hx (3, 9, 1) (by simp))
    obtain ⟨ne, e10, _⟩ := leaf_int (k := .i64) (by kernel_rfl) (hx (3, 10, 1) (by simp))
    obtain ⟨gr, e11, _⟩ := leaf_int (k := .i64) (by kernel_rfl) (hx (3, 11, 1) (by simp))
    obtain ⟨s, e12, _⟩ := leaf_str (by kernel_rfl) (hx (9, 12, 1) (by simp))
    refine ⟨⟨k, i, ⟨u, ev, ro, co, ch, rw_, cl, bu, ne, gr⟩, s⟩, fun j v hv => hc j v ?_, u64_of wu, u64_of wv⟩
    have hj : j < 13 := (Array.getElem?_eq_some_iff.1 hv).1
    match j, hj with
    | 0, _ => exact e0.trans hv
    | 1, _ => exact e1.trans hv
    | 2, _ => exact e2.trans hv
    | 3, _ => exact e3.trans hv
    | 4, _ => exact e4.trans hv
    | 5, _ => exact e5.trans hv
    | 6, _ => exact e6.trans hv
    | 7, _ => exact e7.trans hv
    | 8, _ => exact e8.trans hv
    | 9, _ => exact e9.trans hv
    | 10, _ => exact e10.trans hv
    | 11, _ => exact e11.trans hv
    | 12, _ => exact e12.trans hv
  cases p with
  | none =>
    have : len = 0 := by
      cases len with
      | zero => rfl
      | succ n => obtain ⟨a, ha⟩ := hp (by omega); cases ha
    subst this
    exact ⟨none, c, [], rfl, fun h => absurd rfl h, fun a ha => by cases ha⟩
  | some a =>
    obtain ⟨l, hl, hq⟩ := list_choice (Q := fun j x => SAt w (a.add (j * 13)) x) len (key a rfl)
    refine ⟨some a, c, l, by rw [hl], fun _ => ⟨a, rfl⟩, fun a' ha' j x hx => ?_⟩
    cases ha'
    exact hq j x hx
end Go.Proofs.Ytdppllkjibfjcaa
end
