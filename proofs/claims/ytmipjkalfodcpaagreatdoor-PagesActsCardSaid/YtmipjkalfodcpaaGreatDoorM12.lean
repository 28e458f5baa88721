import Derived.Test.YtmipjkalfodcpaaGreatDoorM4
import Derived.Test.YtmipjkalfodcpaaGreatDoorM8
import Derived.Test.YtmipjkalfodcpaaGreatDoorM9
import Derived.Test.YtmipjkalfodcpaaGreatDoorM10
import Derived.Test.YtmipjkalfodcpaaGreatDoorM11
section
/-! The reference's Check and May: the same answers. -/
namespace Go.Proofs.YtmipjkalfodcpaaGreatDoor
open Go.Sh Go.RowKit
set_option linter.unusedVariables false
set_option maxRecDepth 20000
set_option maxHeartbeats 1000000
end Go.Proofs.YtmipjkalfodcpaaGreatDoor
end
section
/-! The reference's crc: the same sums. -/
namespace Go.Proofs.YtmipjkalfodcpaaGreatDoor
open Go.Sh Go.RowKit
set_option linter.unusedVariables false
set_option maxRecDepth 20000
set_option maxHeartbeats 1000000
theorem max_xor32 (x : B32) : bits2 .xor .u32 IntKind.u32.max (x.toNat : Int) = ((~~~ x).toNat : Int) := by
  have : IntKind.u32.max = (((-1#32 : B32)).toNat : Int) := by decide
  rw [this, xor32]
  congr 2
theorem bit_one (x : B32) : (bits2 .and .u32 (x.toNat : Int) 1 == 1) = x.getLsbD 0 := by
  have h1 : bits2 .and .u32 (x.toNat : Int) 1 = ((x &&& 1#32).toNat : Int) := and32 x 1#32
  rw [h1, BitVec.toNat_and]
  have : (1#32).toNat = 1 := rfl
  rw [this, Nat.and_one_is_mod]
  have h2 : x.getLsbD 0 = decide (x.toNat % 2 = 1) := by
    simp [BitVec.getLsbD, Nat.testBit]
    rfl
  rw [h2]
  rcases Nat.mod_two_eq_zero_or_one x.toNat with h | h <;> simp [h]
theorem it1_succ (j : Nat) (x : B32) : it1 (j + 1) x = step1 (it1 j x) := rfl
theorem it1_8 (x : B32) : it1 8 x = step4 (step4 x) := rfl
theorem rmore_spec (n : B32) (s : ByteArray) (hs : s.size ≤ 1000000000) (w : World) : Ret Tryz.prog 78 #[u32v n, .string s] w (u32v (crcMore n s.data.toList)) := by
  refine ret_of (revetmentref02_More_calls ?_)
  unfold revetmentref02_More
  rw [max_xor32]
  have hl : s.data.toList.length = s.size := Array.length_toList
  refine ⟨fun vs w' => ∃ i : Nat, vs = [u32v ((s.data.toList.take i).foldl crcB (~~~ n)), .int .i64 (i : Int)] ∧ i ≤ s.size ∧ Ext w w', fun vs _ => match vs with | [_, .int _ i] => (s.size - i).toNat | _ => 0, ⟨0, rfl, by omega, .refl w⟩, ?_⟩
  rintro vs w1 ⟨i, rfl, hi, hx⟩
  refine ⟨_, _, rfl, dec_t fun hlt => ?_, dec_f fun hge => ?_⟩
  · have hlt : i < s.size := by omega
    have := index_str (P := Tryz.prog) (t := 9) (k := .i64) (n := i) (s := s) (w := w1) (by kernel_rfl) (by omega) (by omega)
    rw [Int.toNat_natCast] at this
    refine ⟨_, w1, this, ?_⟩
    generalize hb : s.data.toList.getD i 0 = b
    generalize hx0 : (s.data.toList.take i).foldl crcB (~~~ n) = x
    have hbb := b.toNat_lt
    have ex : bits2 .xor .u32 (x.toNat : Int) (IntKind.u32.wrap ((b.toNat : Nat) : Int)) = ((x ^^^ byte32 b).toNat : Int) := by
      have : IntKind.u32.wrap ((b.toNat : Nat) : Int) = ((byte32 b).toNat : Int) := by
        rw [wrap32 _ (by omega) (by omega)]
        unfold byte32
        rw [BitVec.toNat_ofNat]
        omega
      rw [this, xor32]
    rw [ex]
    refine ⟨fun vs w' => w' = w1 ∧ ∃ j : Nat, vs = [u32v (it1 j (x ^^^ byte32 b)), .int .i64 (j : Int)] ∧ j ≤ 8, fun vs _ => match vs with | [_, .int _ j] => (8 - j).toNat | _ => 0, ⟨rfl, 0, rfl, by omega⟩, ?_⟩
    rintro vs w2 ⟨rfl, j, rfl, hj⟩
    have hms : j < 8 → ((8 : Int) - IntKind.i64.wrap ((j : Int) + 1)).toNat < ((8 : Int) - (j : Int)).toNat := fun h => by rw [wrap64 _ (by omega) (by omega)]; omega
    have hnx : j < 8 → IntKind.i64.wrap ((j : Int) + 1) = ((j + 1 : Nat) : Int) := fun h => by rw [wrap64 _ (by omega) (by omega)]; omega
    refine ⟨_, _, rfl, dec_t fun hjl => ?_, dec_f fun hjg => ?_⟩
    · have hjl : j < 8 := by omega
      rw [bit_one, shr32 _ 1]
      refine ⟨fun hbit => ⟨⟨rfl, j + 1, ?_, by omega⟩, hms hjl⟩, fun hbit => ⟨⟨rfl, j + 1, ?_, by omega⟩, hms hjl⟩⟩
      · have hp : (2197175160 : Int) = (poly.toNat : Int) := rfl
        rw [hnx hjl, it1_succ, step1_bit, hbit, hp, xor32]
        rfl
      · rw [hnx hjl, it1_succ, step1_bit, hbit]
        simp
    · have hj8 : j = 8 := by omega
      subst hj8
      refine ⟨⟨i + 1, ?_, by omega, hx⟩, ?_⟩
      · have : (s.data.toList.take (i + 1)).foldl crcB (~~~ n) = crcB x b := by
          rw [List.take_add_one, List.getElem?_eq_getElem (by omega), ← hx0, ← hb, List.getD_eq_getElem?_getD, List.getElem?_eq_getElem (by omega)]
          simp
        rw [this, it1_8, wrap64 _ (by omega) (by omega)]
        rfl
      · show ((s.size : Int) - IntKind.i64.wrap ((i : Int) + 1)).toNat < ((s.size : Int) - (i : Int)).toNat
        rw [wrap64 _ (by omega) (by omega)]; omega
  · have hie : i = s.size := by omega
    subst hie
    rw [List.take_of_length_le (by omega), max_xor32]
    exact ⟨rfl, hx⟩
theorem rsum_spec (s : ByteArray) (hs : s.size ≤ 1000000000) (w : World) : Ret Tryz.prog 64 #[.string s] w (u32v (crcSum s.data.toList)) := by
  refine ret_of (revetmentref02_Sum_calls ?_)
  unfold revetmentref02_Sum
  exact (rmore_spec 0#32 s hs w).mono fun e w1 ⟨he, hx⟩ => ⟨_, he, rfl, hx⟩
end Go.Proofs.YtmipjkalfodcpaaGreatDoor
end
section
/-! The reference's four, Open. -/
namespace Go.Proofs.YtmipjkalfodcpaaGreatDoor
open Go.Sh Go.RowKit
set_option linter.unusedVariables false
set_option maxRecDepth 20000
set_option maxHeartbeats 1000000
theorem rfour_spec (n : B32) (w : World) : Ret Tryz.prog 63 #[u32v n] w (.string (strB (four n))) := by
  refine ret_of (revetmentref02_four_calls ?_)
  unfold revetmentref02_four
  refine Alloc.t (T.nil w) fun k w1 h1 => ?_
  have h2 : T [] w w1 [rowP 5 1 (some k) 4 4 (bvals (four n))] := by
    refine blk_row h1 ?_ rfl (by decide)
    have hlt := n.isLt
    have hw : ∀ d : Nat, 0 < d → IntKind.u8.wrap ((n.toNat : Int) / (d : Int)) = ((UInt8.ofNat (n.toNat / d)).toNat : Int) := by
      intro d hd
      rw [wrap8]
      simp
    have h0 : IntKind.u8.wrap (n.toNat : Int) = ((UInt8.ofNat n.toNat).toNat : Int) := by rw [wrap8]; simp
    have hf : ∀ k : Nat, Int.fdiv (n.toNat : Int) (2 ^ k) = (n.toNat : Int) / ((2 ^ k : Nat) : Int) := by
      intro k
      rw [Int.fdiv_eq_ediv_of_nonneg _ (Int.le_of_lt (Int.pow_pos (by decide)))]
      push_cast
      rfl
    rw [hf 8, hf 16, hf 24, hw _ (by decide), hw _ (by decide), hw _ (by decide), h0]
    rfl
  exact ⟨_, w1, row_string h2 List.mem_cons_self, rfl, h2.chg.ext⟩
theorem ropen_spec (s : ByteArray) (hs : s.size ≤ 1000000000) (w : World) : Ret Tryz.prog 52 #[.string s] w (.tuple #[.string (strB (openB s.data.toList).1), .bool (openB s.data.toList).2]) := by
  refine ret_of (revetmentref02_Open_calls ?_)
  unfold revetmentref02_Open
  have hl : s.data.toList.length = s.size := Array.length_toList
  refine ⟨dec_t fun hlt => ⟨?_, Ext.refl w⟩, dec_f fun hge => ?_⟩
  · unfold openB
    rw [if_pos (by omega)]
  · have wr : IntKind.i64.wrap ((s.size : Int) - 4) = (s.size : Int) - 4 := wrap64 _ (by omega) (by omega)
    rw [wr]
    have htn : ((s.size : Int) - 4).toNat = s.size - 4 := by omega
    have hs1 : s.extract 0 (s.size - 4) = strB (s.data.toList.take (s.size - 4)) := by
      conv => lhs; rw [← strB_list s]
      rw [strB_extract, List.drop_zero, Nat.sub_zero]
    have hs2 : s.extract (s.size - 4) s.size = strB (s.data.toList.drop (s.size - 4)) := by
      conv => lhs; rw [← strB_list s]
      rw [strB_extract, strB_size, hl]
      congr 1
      rw [List.take_of_length_le (by rw [List.length_drop, hl]; omega)]
    refine ⟨strB (s.data.toList.take (s.size - 4)), w, by rw [slice_to (by kernel_rfl) (by omega) (by omega), htn, hs1], fun w' => Ext w w', (Ext.refl w).drew, strB (s.data.toList.drop (s.size - 4)), fun w' _ => by rw [slice_from (by kernel_rfl) (by omega) (by omega), htn, hs2], ?_⟩
    have hz : (strB (s.data.toList.take (s.size - 4))).size ≤ 1000000000 := by rw [strB_size, List.length_take]; omega
    refine (rsum_spec _ hz _).mono fun e w1 ⟨he, hx1⟩ => ⟨_, he, ((Ext.refl w).drew).trans hx1, ?_⟩
    refine (rfour_spec _ w1).mono fun e w2 ⟨he, hx2⟩ => ⟨_, he, (((Ext.refl w).drew).trans hx1).trans hx2, ?_⟩
    have hx := (((Ext.refl w).drew).trans hx1).trans hx2
    have e1 : (strB (four (crcSum (strB (s.data.toList.take (s.size - 4))).data.toList))).toList = four (crcSum (s.data.toList.take (s.size - 4))) := strB_toList _
    rw [e1, strB_toList]
    have ho : openB s.data.toList = if four (crcSum (s.data.toList.take (s.size - 4))) = s.data.toList.drop (s.size - 4) then (s.data.toList.take (s.size - 4), true) else ([], false) := by
      unfold openB
      rw [if_neg (by omega), hl]
    by_cases hq : four (crcSum (s.data.toList.take (s.size - 4))) = s.data.toList.drop (s.size - 4)
    · rw [ho, if_pos hq, hq]
      simp only [beq_self_eq_true, Bool.not_true]
      exact ⟨fun h => (by cases h), fun _ => ⟨trivial, hx⟩⟩
    · rw [ho, if_neg hq]
      have : (s.data.toList.drop (s.size - 4) == four (crcSum (s.data.toList.take (s.size - 4)))) = false := by
        simp only [beq_eq_false_iff_ne, ne_eq]
        exact fun h => hq h.symm
      rw [this]
      exact yes rfl ⟨rfl, hx⟩
end Go.Proofs.YtmipjkalfodcpaaGreatDoor
end
section
/-! The reference's Seal. -/
namespace Go.Proofs.YtmipjkalfodcpaaGreatDoor
open Go.Sh Go.RowKit
set_option linter.unusedVariables false
set_option maxRecDepth 20000
set_option maxHeartbeats 1000000
theorem rseal_spec (s : ByteArray) (size : Nat) (hs : s.size + 4 ≤ size) (hz : size ≤ 4096) (w : World) : Ret Tryz.prog 44 #[.string s, .int .i64 (size : Int)] w (.tuple #[.string (strB (sealB s.data.toList size)), .bool true]) := by
  refine ret_of (revetmentref02_Seal_calls ?_)
  unfold revetmentref02_Seal
  have wr : IntKind.i64.wrap ((size : Int) - 4) = (size : Int) - 4 := wrap64 _ (by omega) (by omega)
  have hl : s.data.toList.length = s.size := Array.length_toList
  rw [wr]
  refine no (decide_eq_false (by omega)) (no (decide_eq_false (by omega)) (no (decide_eq_false (by omega)) ?_))
  refine ⟨fun vs w' => w' = w ∧ ∃ k : Nat, vs = [.string (strB (s.data.toList ++ List.replicate k 0))] ∧ s.size + k ≤ size - 4, fun vs _ => match vs with | [.string t] => size - t.size | _ => 0, ⟨rfl, 0, by rw [List.replicate_zero, List.append_nil, strB_list], by omega⟩, ?_⟩
  rintro vs w1 ⟨rfl, k, rfl, hk⟩
  have hsz : (strB (s.data.toList ++ List.replicate k 0)).size = s.size + k := by rw [strB_size]; simp [hl]
  refine ⟨_, rfl, dec_t fun hlt => ?_, dec_f fun hge => ?_⟩
  · rw [hsz] at hlt
    have e0 : (ByteArray.mk #[0]) = strB [0] := rfl
    have es : strB (s.data.toList ++ List.replicate k 0) ++ ByteArray.mk #[0] = strB (s.data.toList ++ List.replicate (k + 1) 0) := by
      rw [e0, strB_append, List.append_assoc, List.replicate_succ']
    refine ⟨by rw [hsz]; have : (ByteArray.mk #[0]).size = 1 := rfl
               omega, ⟨rfl, k + 1, by rw [es], by omega⟩, ?_⟩
    rw [es]
    show size - (strB (s.data.toList ++ List.replicate (k + 1) 0)).size < size - (strB (s.data.toList ++ List.replicate k 0)).size
    rw [hsz, strB_size]
    simp [hl]; omega
  · rw [hsz] at hge
    have hke : k = size - 4 - s.size := by omega
    have hp : strB (s.data.toList ++ List.replicate k 0) = strB (padB s.data.toList (size - 4)) := by unfold padB; rw [hke, hl]
    rw [hp]
    have hpl : (padB s.data.toList (size - 4)).length = size - 4 := padB_len (by omega)
    refine (rsum_spec _ (by rw [strB_size, hpl]; omega) _).mono fun e w2 ⟨he, hx2⟩ => ⟨_, he, ?_⟩
    refine (rfour_spec _ w2).mono fun e w3 ⟨he, hx3⟩ => ⟨_, he, by rw [strB_size, strB_size, hpl]; have := four_len (crcSum (strB (padB s.data.toList (size - 4))).data.toList); omega, ?_, hx2.trans hx3⟩
    rw [strB_append]
    rfl
end Go.Proofs.YtmipjkalfodcpaaGreatDoor
end
section
/-! The reference's pack: Size, Fits, Encode, Decode. -/
namespace Go.Proofs.YtmipjkalfodcpaaGreatDoor
open Go.Sh Go.RowKit
set_option linter.unusedVariables false
set_option linter.unusedSimpArgs false
set_option maxRecDepth 20000
set_option maxHeartbeats 1000000
theorem rsize_spec {ws : List Nat} (hv : Wid ws) {w : World} {g : Option Nat} {cap : Nat} (hm : readsW w g ws) : Ret Tryz.prog 61 #[.slice (ptr g) ws.length cap] w (.tuple #[.int .i64 (ws.sum : Int), .int .i64 0]) := by
  refine ret_of (revetmentref03_Size_calls ?_)
  unfold revetmentref03_Size
  have hs := hv.sum
  have hl := hv.1
  refine no (decide_eq_false (by omega)) ?_
  refine ⟨fun vs w' => w' = w ∧ ∃ i : Nat, vs = [.int .i64 (wsum ws i : Int), .int .i64 (i : Int)] ∧ i ≤ ws.length, fun vs _ => match vs with | [_, .int _ i] => (ws.length - i).toNat | _ => 0, ⟨rfl, 0, rfl, by omega⟩, ?_⟩
  rintro vs w1 ⟨rfl, i, rfl, hi⟩
  refine ⟨_, _, rfl, dec_t fun hlt => ?_, dec_f fun hge => ?_⟩
  · have hlt : i < ws.length := by omega
    obtain ⟨b, rfl, hc⟩ := hm i ws[i] (by simp [hlt])
    have hx := hv.at (i := i) (x := ws[i]) (by simp [hlt])
    have hst := wsum_step (ws := ws) (i := i) (x := ws[i]) (by simp [hlt])
    have hmx := wsum_max (ws := ws) (i + 1)
    have hcell : w1.cell? (Addr.add ⟨b, 0, none⟩ ((i : Int).toNat * 1)) = some (.int .i64 (ws[i] : Int)) := by rw [addr_add, Nat.zero_add, Nat.mul_one, Int.toNat_natCast]; exact hc
    refine ⟨_, rfl, by omega, by omega, _, hcell, no (decide_eq_false (by omega)) ⟨_, rfl, by omega, by omega, _, hcell, no (decide_eq_false (by omega)) ⟨_, rfl, by omega, by omega, _, hcell, ⟨rfl, i + 1, ?_, by omega⟩, ?_⟩⟩⟩
    · rw [wrap64 _ (by omega) (by omega), wrap64 _ (by omega) (by omega), hst]; simp
    · show ((ws.length : Int) - IntKind.i64.wrap ((i : Int) + 1)).toNat < ((ws.length : Int) - (i : Int)).toNat
      rw [wrap64 _ (by omega) (by omega)]; omega
  · have hie : i = ws.length := by omega
    subst hie
    rw [wsum_all ws (Nat.le_refl _)]
    exact ⟨rfl, Ext.refl _⟩
theorem rfits_spec (n x : Nat) (hn : n < 256 ^ x) (hx : 1 ≤ x ∧ x ≤ 8) (w : World) : Ret Tryz.prog 62 #[.int .u64 (n : Int), .int .i64 (x : Int)] w (.bool true) := by
  refine ret_of (revetmentref03_Fits_calls ?_)
  unfold revetmentref03_Fits
  refine no (decide_eq_false (by omega)) (no (decide_eq_false (by omega)) ?_)
  refine ⟨fun vs w' => w' = w ∧ ∃ k : Nat, vs = [.int .u64 ((n / 256 ^ k : Nat) : Int), .int .i64 (k : Int)] ∧ k ≤ x, fun vs _ => match vs with | [_, .int _ k] => (x - k).toNat | _ => 0, ⟨rfl, 0, by rw [Nat.pow_zero, Nat.div_one]; rfl, by omega⟩, ?_⟩
  rintro vs w1 ⟨rfl, k, rfl, hk⟩
  refine ⟨_, _, rfl, dec_t fun hlt => ?_, dec_f fun hge => ?_⟩
  · have e : Int.fdiv ((n / 256 ^ k : Nat) : Int) (2 ^ 8) = ((n / 256 ^ (k + 1) : Nat) : Int) := by
      rw [Int.fdiv_eq_ediv_of_nonneg _ (by decide), Nat.pow_succ, ← Nat.div_div_eq_div_mul]; push_cast; rfl
    rw [e]
    refine ⟨⟨rfl, k + 1, by rw [wrap64 _ (by omega) (by omega)]; rfl, by omega⟩, ?_⟩
    show ((x : Int) - IntKind.i64.wrap ((k : Int) + 1)).toNat < ((x : Int) - (k : Int)).toNat
    rw [wrap64 _ (by omega) (by omega)]; omega
  · have hkx : k = x := by omega
    subst hkx
    rw [Nat.div_eq_of_lt hn]
    exact ⟨rfl, Ext.refl _⟩
theorem rencode_spec {ns ws : List Nat} (hv : Wid ws) (hl : ns.length = ws.length) (hf : ∀ (i n x : Nat), ns[i]? = some n → ws[i]? = some x → n < 256 ^ x) {F : List Nat} {w0 w : World} {Γ : List A} (hT : T F w0 w Γ) {g1 g2 : Option Nat} {n1 n2 c1 c2 : Nat} (hn1 : n1 = ns.length) (hn2 : n2 = ws.length)
    (hm1 : rowP 23 1 g1 n1 c1 (u64s ns) ∈ Γ) (hm2 : rowP 3 1 g2 n2 c2 (ints ws) ∈ Γ) :
    Calls Tryz.prog 43 #[.slice (ptr g1) n1 c1, .slice (ptr g2) n2 c2] w fun e w' => e = .returned (.tuple #[.string (strB (encP ns ws)), .int .i64 0]) ∧ T F w0 w' Γ := by
  subst hn1 hn2
  refine (revetmentref03_Encode_calls (R := fun v w' => v = .tuple #[.string (strB (encP ns ws)), .int .i64 0] ∧ T F w0 w' Γ) ?_).mono fun e w' ⟨v, he, hv, h⟩ => ⟨by rw [he, hv], h⟩
  unfold revetmentref03_Encode
  have hs := hv.sum
  have hw64 := hv.1
  refine (rsize_spec hv (T.readsW hT hm2)).mono fun e w1 ⟨he, hx⟩ => ⟨_, _, he, no rfl (no (by simp [hl]) ?_)⟩
  have h1 := hT.quiet hx
  refine Alloc.t h1 fun k24 w2 h2 => ?_
  have h2 : T F w0 w2 (rowP 5 1 (some k24) 0 0 (bvals ((encP ns ws).take 0)) :: Γ) := blk_row h2 rfl rfl (by decide)
  refine ⟨fun vs w' => ∃ (i : Nat) (g : Option Nat) (cap : Nat), vs = [.slice (ptr g) (wsum ws i) cap, .int .i64 (i : Int)] ∧ i ≤ ws.length ∧ T F w0 w' (rowP 5 1 g (wsum ws i) cap (bvals ((encP ns ws).take (wsum ws i))) :: Γ), fun vs _ => match vs with | [_, .int _ i] => (ws.length - i).toNat | _ => 0, ⟨0, some k24, 0, rfl, by omega, h2⟩, ?_⟩
  rintro vs w3 ⟨i, g, cap, rfl, hi, h3⟩
  refine ⟨_, _, _, _, rfl, dec_t fun hlt => ?_, dec_f fun hge => ?_⟩
  · have hlt : i < ws.length := by omega
    have hx : ws[i]? = some ws[i] := by simp [hlt]
    have hn : ns[i]? = some (ns[i]'(by omega)) := by simp [hl, hlt]
    generalize ns[i]'(by omega) = v at hn
    generalize ws[i] = x at hx
    have h8 := hv.at hx
    have hst := wsum_step hx
    have hmx := wsum_max (ws := ws) (i + 1)
    obtain ⟨b1, rfl, _, _⟩ := T.cell1 hT hm1 (u64s_get hn)
    obtain ⟨b2, rfl, _, _⟩ := T.cell1 hT hm2 (ints_get hx)
    have rn : ∀ {w' : World} {Γ' : List A}, T F w0 w' Γ' → rowP 23 1 (some b1) ns.length c1 (u64s ns) ∈ Γ' → w'.cell? (Addr.add ⟨b1, 0, none⟩ ((i : Int).toNat * 1)) = some (.int .u64 (v : Int)) := fun h m => by
      obtain ⟨b', hb', _, hc⟩ := T.cell1 h m (u64s_get hn)
      cases hb'
      rw [Int.toNat_natCast]; exact hc
    have rw_ : ∀ {w' : World} {Γ' : List A}, T F w0 w' Γ' → rowP 3 1 (some b2) ws.length c2 (ints ws) ∈ Γ' → w'.cell? (Addr.add ⟨b2, 0, none⟩ ((i : Int).toNat * 1)) = some (.int .i64 (x : Int)) := fun h m => by
      obtain ⟨b', hb', _, hc⟩ := T.cell1 h m (ints_get hx)
      cases hb'
      rw [Int.toNat_natCast]; exact hc
    refine ⟨fun w' => T F w0 w' (_ :: Γ), h3.drew, _, rfl, by omega, by omega, (v : Int), fun w' hd => rn hd (List.mem_cons_of_mem _ hm1), _, rfl, by omega, by omega, (x : Int), fun w' hd => rw_ hd (List.mem_cons_of_mem _ hm2), ?_⟩
    refine (rfits_spec v x (hf i v x hn hx) h8 _).mono fun e w4 ⟨he, hx4⟩ => ⟨_, he, h3.drew.quiet hx4, no rfl ?_⟩
    have h4 := h3.drew.quiet hx4
    refine ⟨fun vs w' => ∃ (k : Nat) (g : Option Nat) (cap : Nat), vs = [.slice (ptr g) (wsum ws i + k) cap, .int .i64 (k : Int)] ∧ k ≤ x ∧ T F w0 w' (rowP 5 1 g (wsum ws i + k) cap (bvals ((encP ns ws).take (wsum ws i + k))) :: Γ), fun vs _ => match vs with | [_, .int _ k] => (x - k).toNat | _ => 0, ⟨0, g, cap, rfl, by omega, h4⟩, ?_⟩
    rintro vs w5 ⟨k, g', cap', rfl, hk, h5⟩
    refine ⟨_, _, _, _, rfl, _, rfl, by omega, by omega, (x : Int), rw_ h5 (List.mem_cons_of_mem _ hm2), dec_t fun hkl => ?_, dec_f fun hkg => ?_⟩
    · have hk8 : IntKind.i64.wrap (8 * (k : Int)) = ((8 * k : Nat) : Int) := by rw [wrap64 _ (by omega) (by omega)]; omega
      rw [hk8]
      have hbyte : IntKind.u8.wrap (Int.fdiv (v : Int) (2 ^ (min ((8 * k : Nat) : Int).toNat 64))) = ((UInt8.ofNat (v / 2 ^ (8 * k))).toNat : Int) := by
        rw [Int.toNat_natCast, Nat.min_eq_left (by omega), Int.fdiv_eq_ediv_of_nonneg _ (Int.le_of_lt (Int.pow_pos (by decide))), wrap8]
        have : ((v : Int) / 2 ^ (8 * k)) = ((v / 2 ^ (8 * k) : Nat) : Int) := by push_cast; rfl
        rw [this]
        simp
      refine ⟨_, rfl, by omega, by omega, (v : Int), rn h5 (List.mem_cons_of_mem _ hm1), by omega, ?_⟩
      rw [hbyte]
      refine push1_t (i := Tryz.t5) (z := .int .u8 0) (by kernel_rfl) (by kernel_rfl) (by kernel_rfl) (by kernel_rfl) (by kernel_rfl) (by kernel_rfl) h5 .head rfl (by omega) fun g2 cap2 w7 h7 => ⟨⟨k + 1, g2, cap2, ?_, by omega, ?_⟩, ?_⟩
      · rw [wrap64 _ (by omega) (by omega)]; rfl
      · have e : bvals ((encP ns ws).take (wsum ws i + k)) ++ [.int .u8 ((UInt8.ofNat (v / 2 ^ (8 * k))).toNat : Int)] = bvals ((encP ns ws).take (wsum ws i + (k + 1))) := by
          rw [← Nat.add_assoc, encP_take_step hx hn (by omega), ← bvals_append]; rfl
        rw [e] at h7
        exact h7
      · show ((x : Int) - IntKind.i64.wrap ((k : Int) + 1)).toNat < ((x : Int) - (k : Int)).toNat
        rw [wrap64 _ (by omega) (by omega)]; omega
    · have hkx : k = x := by omega
      subst hkx
      refine ⟨⟨i + 1, g', cap', ?_, by omega, ?_⟩, ?_⟩
      · rw [wrap64 _ (by omega) (by omega), hst]; rfl
      · rw [hst]; exact h5
      · show ((ws.length : Int) - IntKind.i64.wrap ((i : Int) + 1)).toNat < ((ws.length : Int) - (i : Int)).toNat
        rw [wrap64 _ (by omega) (by omega)]; omega
  · have hie : i = ws.length := by omega
    subst hie
    rw [wsum_all ws (Nat.le_refl _)] at h3 ⊢
    rw [List.take_of_length_le (by rw [encP_len ns ws hl]; exact Nat.le_refl _)] at h3
    exact ⟨_, w3, row_string h3 List.mem_cons_self, rfl, h3.drop⟩
theorem rdecode_spec {ws : List Nat} (hv : Wid ws) {s : ByteArray} (hsz : s.size = ws.sum) {F : List Nat} {w0 w : World} {Γ : List A} (hT : T F w0 w Γ) {g2 : Option Nat} {n2 c2 : Nat} (hn2 : n2 = ws.length)
    (hm2 : rowP 3 1 g2 n2 c2 (ints ws) ∈ Γ) :
    Calls Tryz.prog 53 #[.string s, .slice (ptr g2) n2 c2] w fun e w' => ∃ g cap, e = .returned (.tuple #[.slice (ptr g) ws.length cap, .int .i64 0]) ∧ T F w0 w' (rowP 23 1 g ws.length cap (u64s (decP s.data.toList ws)) :: Γ) := by
  subst hn2
  refine (revetmentref03_Decode_calls (R := fun v w' => ∃ g cap, v = .tuple #[.slice (ptr g) ws.length cap, .int .i64 0] ∧ T F w0 w' (rowP 23 1 g ws.length cap (u64s (decP s.data.toList ws)) :: Γ)) ?_).mono fun e w' ⟨v, he, g, cap, hv, h⟩ => ⟨g, cap, by rw [he, hv], h⟩
  unfold revetmentref03_Decode
  have hs := hv.sum
  have hw64 := hv.1
  have hlen : s.data.toList.length = ws.sum := by rw [Array.length_toList]; exact hsz
  have hdl : (decP s.data.toList ws).length = ws.length := decP_len _ ws
  refine (rsize_spec hv (T.readsW hT hm2)).mono fun e w1 ⟨he, hx⟩ => ⟨_, _, he, no rfl (no (by rw [hsz]; simp) ?_)⟩
  have h1 := hT.quiet hx
  refine Alloc.t h1 fun k25 w2 h2 => ?_
  have h2 : T F w0 w2 (rowP 23 1 (some k25) 0 0 (u64s ((decP s.data.toList ws).take 0)) :: Γ) := blk_row h2 rfl rfl (by decide)
  refine ⟨fun vs w' => ∃ (i : Nat) (g : Option Nat) (cap : Nat), vs = [.slice (ptr g) i cap, .int .i64 (wsum ws i : Int), .int .i64 (i : Int)] ∧ i ≤ ws.length ∧ T F w0 w' (rowP 23 1 g i cap (u64s ((decP s.data.toList ws).take i)) :: Γ), fun vs _ => match vs with | [_, _, .int _ i] => (ws.length - i).toNat | _ => 0, ⟨0, some k25, 0, rfl, by omega, h2⟩, ?_⟩
  rintro vs w3 ⟨i, g, cap, rfl, hi, h3⟩
  refine ⟨_, _, _, _, _, rfl, dec_t fun hlt => ?_, dec_f fun hge => ?_⟩
  · have hlt : i < ws.length := by omega
    have hx : ws[i]? = some ws[i] := by simp [hlt]
    generalize ws[i] = x at hx
    have h8 := hv.at hx
    have hst := wsum_step hx
    have hmx := wsum_max (ws := ws) (i + 1)
    obtain ⟨b2, rfl, _, _⟩ := T.cell1 hT hm2 (ints_get hx)
    have rw_ : ∀ {w' : World} {Γ' : List A}, T F w0 w' Γ' → rowP 3 1 (some b2) ws.length c2 (ints ws) ∈ Γ' → w'.cell? (Addr.add ⟨b2, 0, none⟩ ((i : Int).toNat * 1)) = some (.int .i64 (x : Int)) := fun h m => by
      obtain ⟨b', hb', _, hc⟩ := T.cell1 h m (ints_get hx)
      cases hb'
      rw [Int.toNat_natCast]; exact hc
    refine ⟨fun vs w' => w' = w3 ∧ ∃ k : Nat, vs = [.int .u64 (curP s.data.toList ws (wsum ws i + k) i : Int), .int .i64 (k : Int)] ∧ k ≤ x, fun vs _ => match vs with | [_, .int _ k] => (x - k).toNat | _ => 0, ⟨rfl, 0, ?_, by omega⟩, ?_⟩
    · have : curP s.data.toList ws (wsum ws i + 0) i = 0 := by simp [curP, leN]
      rw [this]; rfl
    rintro vs w4 ⟨rfl, k, rfl, hk⟩
    refine ⟨_, _, rfl, _, rfl, by omega, by omega, (x : Int), rw_ h3 (List.mem_cons_of_mem _ hm2), dec_t fun hkl => ?_, dec_f fun hkg => ?_⟩
    · have hkl : k < x := by omega
      have hb : s.data.toList[wsum ws i + k]? = some (s.data.toList[wsum ws i + k]'(by omega)) := by simp
      generalize s.data.toList[wsum ws i + k]'(by omega) = b at hb
      obtain ⟨hst2, hlt2⟩ := curP_step hx hkl hb
      have hbb := b.toNat_lt
      have hp : (256 : Nat) ^ k = 2 ^ (8 * k) := by rw [Nat.pow_mul]
      rw [hp] at hst2 hlt2
      have hval : curP s.data.toList ws (wsum ws i + k) i + b.toNat * 2 ^ (8 * k) < 18446744073709551616 := by
        have h1 : b.toNat * 2 ^ (8 * k) ≤ 255 * 2 ^ (8 * k) := Nat.mul_le_mul_right _ (by omega)
        have h2 : (2 : Nat) ^ (8 * k) ≤ 2 ^ 56 := Nat.pow_le_pow_right (by decide) (by omega)
        have h3 : (2 : Nat) ^ 56 = 72057594037927936 := by decide
        omega
      have hk8 : IntKind.i64.wrap (8 * (k : Int)) = ((8 * k : Nat) : Int) := by rw [wrap64 _ (by omega) (by omega)]; omega
      have hwr : IntKind.u64.wrap (IntKind.u64.wrap ((b.toNat : Nat) : Int) * 2 ^ (min ((8 * k : Nat) : Int).toNat 64)) = ((b.toNat * 2 ^ (8 * k) : Nat) : Int) := by
        rw [Int.toNat_natCast, Nat.min_eq_left (by omega)]
        have e1 : IntKind.u64.wrap ((b.toNat : Nat) : Int) = ((b.toNat : Nat) : Int) := by rw [wrapU64]; omega
        have e2 : ((b.toNat : Nat) : Int) * 2 ^ (8 * k) = ((b.toNat * 2 ^ (8 * k) : Nat) : Int) := by push_cast; rfl
        rw [e1, e2, wrapU64]; omega
      have hor := or64 hlt2 hval
      have hat : IntKind.i64.wrap ((wsum ws i : Int) + (k : Int)) = ((wsum ws i + k : Nat) : Int) := by rw [wrap64 _ (by omega) (by omega)]; omega
      have hix := index_str (P := Tryz.prog) (t := 9) (k := .i64) (n := ((wsum ws i + k : Nat) : Int)) (s := s) (w := w4) (by kernel_rfl) (by omega) (by omega)
      rw [Int.toNat_natCast] at hix
      have hgd : s.data.toList.getD (wsum ws i + k) 0 = b := by simp [List.getD, hb]
      rw [hgd] at hix
      rw [hat, hk8]
      refine ⟨_, w4, hix, by omega, ?_⟩
      rw [hwr, hor, ← hst2]
      refine ⟨⟨rfl, k + 1, ?_, by omega⟩, ?_⟩
      · rw [wrap64 _ (by omega) (by omega)]; rfl
      · show ((x : Int) - IntKind.i64.wrap ((k : Int) + 1)).toNat < ((x : Int) - (k : Int)).toNat
        rw [wrap64 _ (by omega) (by omega)]; omega
    · have hkx : k = x := by omega
      subst hkx
      have hget : (decP s.data.toList ws)[i]? = some (curP s.data.toList ws (wsum ws i + k) i) := by
        rw [decP_get ws s.data.toList i k hx]
        have : ws.getD i 0 = k := by simp [List.getD, hx]
        unfold curP
        rw [this, Nat.add_sub_cancel_left, Nat.min_self]
      refine push1_t (i := Tryz.t23) (z := .int .u64 0) (by kernel_rfl) (by kernel_rfl) (by kernel_rfl) (by kernel_rfl) (by kernel_rfl) (by kernel_rfl) h3 .head rfl (by omega) fun g3 cap3 w7 h7 => ?_
      rw [u64s_take _ _ _ hget] at h7
      refine ⟨_, rfl, by omega, by omega, (k : Int), rw_ h7 (List.mem_cons_of_mem _ hm2), ⟨i + 1, g3, cap3, ?_, by omega, h7⟩, ?_⟩
      · rw [wrap64 _ (by omega) (by omega), wrap64 _ (by omega) (by omega), hst]
        simp
      · show ((ws.length : Int) - IntKind.i64.wrap ((i : Int) + 1)).toNat < ((ws.length : Int) - (i : Int)).toNat
        rw [wrap64 _ (by omega) (by omega)]; omega
  · have hie : i = ws.length := by omega
    subst hie
    rw [List.take_of_length_le (by omega)] at h3
    exact ⟨g, cap, rfl, h3⟩
end Go.Proofs.YtmipjkalfodcpaaGreatDoor
end
section
/-! Pages compared; the reference's Encode and Decode. -/
namespace Go.Proofs.YtmipjkalfodcpaaGreatDoor
open Go.Sh Go.RowKit
set_option linter.unusedVariables false
set_option linter.unusedSimpArgs false
set_option maxRecDepth 20000
set_option maxHeartbeats 1000000
theorem eq_str (d : Nat) (w : World) (a b : List UInt8) : (Op.equalIn (d + 1) 9 (.string (strB a)) (.string (strB b))).run Tryz.prog w = .ok (decide (a = b)) w := by
  rw [run_equalIn_string w d 9 _ _ (by kernel_rfl), strB_toList, strB_toList]
  congr 1
  by_cases h : a = b
  · rw [decide_eq_true h, h]; simp
  · rw [decide_eq_false h]; simpa using h
theorem pgFields : (Tryz.prog.fieldsOf 36).toList = [Field.mk "Events" 23 0 false "" "" 0, Field.mk "Bits" 9 1 false "" "" 8] := by kernel_rfl
theorem rpgFields : (Tryz.prog.fieldsOf 38).toList = [Field.mk "Events" 23 0 false "" "" 0, Field.mk "Bits" 9 1 false "" "" 8] := by kernel_rfl
theorem ppt0 (a : PgV) (w : World) : (part 23 (pgC a) 0).run Tryz.prog w = .ok (.int .u64 (a.ev : Int)) w := by kernel_rfl
theorem ppt1 (a : PgV) (w : World) : (part 9 (pgC a) 1).run Tryz.prog w = .ok (.string (strB a.bits)) w := by kernel_rfl
theorem equal_pgF (d : Nat) (a b : PgV) (w : World) : (Op.eqFields (d + 1) (pgC a) (pgC b) [Field.mk "Events" 23 0 false "" "" 0, Field.mk "Bits" 9 1 false "" "" 8]).run Tryz.prog w = .ok (decide (a = b)) w := by
  have h2 : (Op.eqFields (d + 1) (pgC a) (pgC b) []).run Tryz.prog w = .ok true w := eqNil
  have h1 := eqStep "Bits" 9 1 false "" "" 8 (by decide) (ppt1 a w) (ppt1 b w) (eq_str d _ _ _) h2
  have h0 := eqStep "Events" 23 0 false "" "" 0 (by decide) (ppt0 a w) (ppt0 b w) (eq_u64 d _ _ _) h1
  refine h0.trans ?_
  congr 1
  obtain ⟨a0, a1⟩ := a
  obtain ⟨b0, b1⟩ := b
  simp only [PgV.mk.injEq]
  rw [Bool.eq_iff_iff]
  simp
  omega
theorem equal_pg (d : Nat) (a b : PgV) (w : World) : (Op.equalIn (d + 2) 36 (.agg (pgC a)) (.agg (pgC b))).run Tryz.prog w = .ok (decide (a = b)) w := by
  rw [run_equalIn_agg w (d + 1) 36 _ _ (by kernel_rfl) (by kernel_rfl), pgFields]
  exact equal_pgF d a b w
theorem requal_pg (d : Nat) (a b : PgV) (w : World) : (Op.equalIn (d + 2) 38 (.agg (pgC a)) (.agg (pgC b))).run Tryz.prog w = .ok (decide (a = b)) w := by
  rw [run_equalIn_agg w (d + 1) 38 _ _ (by kernel_rfl) (by kernel_rfl), rpgFields]
  exact equal_pgF d a b w
theorem eql_pg (a b : PgV) (x y : Operand) (w : World) : (do eqGuard .eql 36 x y (.agg (pgC a)) (.agg (pgC b)); binOp .eql 36 (.agg (pgC a)) (.agg (pgC b)) : Sem Value).run Tryz.prog w = .ok (.bool (decide (a = b))) w := by
  rw [Sem.run_bind, run_eqGuard_agg _ _ _ _ _ _ _ (by kernel_rfl), Result.andThen_ok, run_eql_struct, equal_pg 9998 a b w]
  rfl
theorem rneq_pg (a b : PgV) (x y : Operand) (w : World) : (do eqGuard .neq 38 x y (.agg (pgC a)) (.agg (pgC b)); binOp .neq 38 (.agg (pgC a)) (.agg (pgC b)) : Sem Value).run Tryz.prog w = .ok (.bool (!decide (a = b))) w := by
  rw [Sem.run_bind, run_eqGuard_agg _ _ _ _ _ _ _ (by kernel_rfl), Result.andThen_ok, run_neq_struct, requal_pg 9998 a b w]
  rfl
theorem rpencode_spec {p : PgV} (he : p.ev < 2 ^ 64) (hb : p.bits.length ≤ 1000000) (w : World) : Ret Tryz.prog 26 #[.agg (pgC p)] w (.tuple #[.string (strB (encPgF p).1), .int .i64 (encPgF p).2]) := by
  refine ret_of (revetmentref11_Encode_calls ?_)
  unfold revetmentref11_Encode
  refine Alloc.t (T.nil w) fun k1 w1 h1 => ⟨_, h1.ld (b := k1) (by repeat (first | exact List.Mem.head _ | refine List.Mem.tail _ ?_)) rfl, bne_t fun hne => ?_, bne_f fun heq => ?_⟩
  · rw [strB_size] at hne
    unfold encPgF
    rw [if_neg (by omega)]
    exact ⟨rfl, h1.chg.ext⟩
  rw [strB_size] at heq
  have h8 : p.bits.length = 8 := by omega
  refine ⟨_, h1.ld (b := k1) (by repeat (first | exact List.Mem.head _ | refine List.Mem.tail _ ?_)) rfl, Alloc.t h1 fun k15 w2 h2 => ?_⟩
  have h2 : T [] w w2 (rowP 23 1 (some k15) 1 1 (u64s [p.ev]) :: [blk k1 (pgC p) 38]) := blk_row h2 rfl rfl (by decide)
  refine Alloc.t h2 fun k16 w3 h3 => ?_
  have h3 : T [] w w3 (rowP 3 1 (some k16) 1 1 (ints [8]) :: rowP 23 1 (some k15) 1 1 (u64s [p.ev]) :: [blk k1 (pgC p) 38]) := blk_row h3 rfl rfl (by decide)
  refine (rencode_spec (ns := [p.ev]) (ws := [8]) wid8 rfl (fit8 he) h3 (g1 := some k15) (g2 := some k16) (n1 := 1) (n2 := 1) (c1 := 1) (c2 := 1) rfl rfl (by repeat (first | exact List.Mem.head _ | refine List.Mem.tail _ ?_)) (by repeat (first | exact List.Mem.head _ | refine List.Mem.tail _ ?_))).mono fun e w4 ⟨he', h4⟩ => ⟨_, _, he', ?_⟩
  rw [encP8]
  have e4 : (ByteArray.mk #[82, 86, 84, 66]) = strB magB := rfl
  have l8 := leB_len p.ev 8
  rw [e4, strB_size, strB_size, strB_append]
  refine ⟨by rw [l8]; decide, _, h4.ld (b := k1) (i := 1) (by repeat (first | exact List.Mem.head _ | refine List.Mem.tail _ ?_)) rfl, by rw [strB_size, strB_size, List.length_append, l8, h8]; decide, ?_⟩
  rw [strB_append]
  have hl : (magB ++ leB p.ev 8 ++ p.bits).length = 20 := by simp [magB, l8, h8]
  refine (rseal_spec (strB (magB ++ leB p.ev 8 ++ p.bits)) 64 (by rw [strB_size, hl]; omega) (by omega) w4).mono fun e w5 ⟨he5, hx5⟩ => ⟨_, _, he5, ?_, h4.chg.ext.trans hx5⟩
  unfold encPgF
  rw [if_pos h8]; rfl
theorem drop_idx {l : List UInt8} (hl : l.length = 60) : ∀ x : UInt8, x ∈ l.drop 20 ↔ ∃ j, 20 ≤ j ∧ j < 60 ∧ l.getD j 0 = x := fun x => by
  constructor
  · intro hx
    obtain ⟨j, hj, rfl⟩ := List.getElem_of_mem hx
    rw [List.length_drop, hl] at hj
    refine ⟨20 + j, by omega, by omega, ?_⟩
    rw [List.getElem_drop]
    simp [List.getD, show 20 + j < l.length by omega]
  · rintro ⟨j, h1, h2, rfl⟩
    have : l.getD j 0 = (l.drop 20)[j - 20]'(by rw [List.length_drop]; omega) := by
      rw [List.getElem_drop]
      simp [List.getD, show j < l.length by omega, show 20 + (j - 20) = j by omega]
    rw [this]; exact List.getElem_mem _
theorem rpdecode_spec (s : ByteArray) (hs : s.size ≤ 1000000) (w : World) : Ret Tryz.prog 37 #[.string s] w (.tuple #[.agg (pgC (decPg s.data.toList).1), .int .i64 (decPg s.data.toList).2]) := by
  refine ret_of (revetmentref11_Decode_calls ?_)
  unfold revetmentref11_Decode
  obtain ⟨b, rfl⟩ : ∃ b, s = strB b := ⟨s.data.toList, (strB_list s).symm⟩
  rw [strB_size] at hs ⊢
  have eb : (strB b).data.toList = b := rfl
  rw [eb]
  refine Alloc.t (T.nil w) fun k2 w1 h1 => ?_
  have bad : ∀ (w' : World) (Γ : List A) (x : Int), T [] w w' Γ → (∃ Δ, Γ.Perm (blk k2 (pgC pgZ) 38 :: Δ)) → decPg b = (pgZ, x) →
      St ⟨k2, 0, none⟩ (.int .u64 0) w' fun w2 => St ⟨k2, 1, none⟩ (.string (ByteArray.mk #[])) w2 fun w3 => ∃ nr2_0 : Int, ∃ sr2_1 : ByteArray, (w3.cell? ⟨k2, 0, none⟩ = some (.int .u64 nr2_0) ∧ w3.cell? ⟨k2, 1, none⟩ = some (.string sr2_1)) ∧
        RetR w (.tuple #[.agg (pgC (decPg b).1), .int .i64 (decPg b).2]) (.tuple #[.agg #[.int .u64 nr2_0, .string sr2_1], .int .i64 x]) w3 := by
    rintro w' Γ x hT ⟨Δ, hp⟩ hd
    have hT := hT.swap hp
    refine St.t (c' := pgC pgZ) hT .head (show 0 < 2 by decide) rfl rfl fun w2 h2 => St.t (c' := pgC pgZ) h2 .head (show 1 < 2 by decide) rfl rfl fun w3 h3 => ?_
    refine ⟨_, _, ⟨h3.ld (b := k2) (by repeat (first | exact List.Mem.head _ | refine List.Mem.tail _ ?_)) rfl, h3.ld (b := k2) (i := 1) (by repeat (first | exact List.Mem.head _ | refine List.Mem.tail _ ?_)) rfl⟩, ?_, h3.chg.ext⟩
    rw [hd]; rfl
  refine ⟨bne_t fun hne => ?_, bne_f fun heq => ?_⟩
  · refine bad w1 _ 31 h1 ⟨_, .refl _⟩ ?_
    unfold decPg; rw [if_pos (by omega)]
  have h64 : b.length = 64 := by omega
  refine (ropen_spec (strB b) (by rw [strB_size]; omega) w1).mono fun e w4 ⟨he4, hx4⟩ => ⟨_, _, he4, ?_⟩
  rw [eb]
  have h4 := h1.quiet hx4
  refine ⟨not_t fun ho => ?_, not_f fun ho => ?_⟩
  · refine bad w4 _ 80 h4 ⟨_, .refl _⟩ ?_
    unfold decPg; rw [if_neg (by omega), if_pos ho]
  have hop : (openB b).1 = b.take 60 := by
    unfold openB at ho ⊢
    rw [h64] at ho ⊢
    rw [if_neg (by omega)] at ho ⊢
    split at ho
    · rename_i hq; rw [if_pos hq]
    · cases ho
  rw [hop]
  have hl60 : (b.take 60).length = 60 := by rw [List.length_take]; omega
  have e4 : (ByteArray.mk #[82, 86, 84, 66]) = strB magB := rfl
  rw [e4]
  have s0 := slice_to (P := Tryz.prog) (t := 9) (k := .i64) (s := strB (b.take 60)) (hi := 4) (w := w4) (by kernel_rfl) (by omega) (by rw [strB_size, hl60]; omega)
  rw [strB_extract, List.drop_zero] at s0
  have hpre : (b.take 60).take ((4 : Int).toNat - 0) = b.take 4 := by rw [List.take_take]; rfl
  rw [hpre] at s0
  refine ⟨_, w4, s0, ?_⟩
  rw [strB_toList, strB_toList]
  refine ⟨fun hne => ?_, fun heq => ?_⟩
  · have hm : b.take 4 ≠ magB := by simpa using hne
    refine bad w4 _ 81 h4 ⟨_, .refl _⟩ ?_
    unfold decPg; rw [if_neg (by omega), if_neg (by rw [ho]; decide), if_pos hm]
  have hm : b.take 4 = magB := by simpa using heq
  refine ⟨fun vs w' => w' = w4 ∧ ∃ i : Nat, vs = [.int .i64 (i : Int)] ∧ 20 ≤ i ∧ i ≤ 60 ∧ ∀ j, 20 ≤ j → j < i → (b.take 60).getD j 0 = 0, fun vs _ => match vs with | [.int _ i] => (60 - i).toNat | _ => 0, ⟨rfl, 20, rfl, by omega, by omega, fun j h1 h2 => by omega⟩, ?_⟩
  rintro vs w10 ⟨rfl, i, rfl, hi20, hi60, hz⟩
  have hidx := drop_idx hl60
  refine ⟨_, rfl, dec_t fun hlt => ?_, dec_f fun hge => ?_⟩
  · rw [strB_size, hl60] at hlt
    have hlt : i < 60 := by omega
    have hix := index_str (P := Tryz.prog) (t := 9) (k := .i64) (n := (i : Int)) (s := strB (b.take 60)) (w := w10) (by kernel_rfl) (by omega) (by rw [strB_size, hl60]; omega)
    rw [Int.toNat_natCast] at hix
    refine ⟨(((b.take 60).getD i 0).toNat : Int), w10, hix, bne_t fun hne => ?_, bne_f fun heq => ?_⟩
    · refine bad w10 _ 1 h4 ⟨_, .refl _⟩ ?_
      unfold decPg
      rw [if_neg (by omega), if_neg (by rw [ho]; decide), if_neg (by simpa using hm), if_pos]
      intro hh
      have := hh _ ((hidx _).2 ⟨i, by omega, hlt, rfl⟩)
      rw [this] at hne
      exact hne rfl
    · refine ⟨⟨rfl, i + 1, ?_, by omega, by omega, fun j h1 h2 => ?_⟩, ?_⟩
      · rw [wrap64 _ (by omega) (by omega)]; rfl
      · rcases Nat.lt_or_ge j i with h | h
        · exact hz j h1 h
        · obtain rfl : j = i := by omega
          exact UInt8.toNat_inj.1 (by simpa using heq)
      · show ((60 : Int) - IntKind.i64.wrap ((i : Int) + 1)).toNat < ((60 : Int) - (i : Int)).toNat
        rw [wrap64 _ (by omega) (by omega)]; omega
  rw [strB_size, hl60] at hge
  have hall : ∀ x ∈ (b.take 60).drop 20, x = 0 := fun x hx => by
    obtain ⟨j, h1, h2, rfl⟩ := (hidx x).1 hx
    exact hz j h1 (by omega)
  have hdec : decPg b = (⟨leN ((b.drop 4).take 8), (b.drop 12).take 8⟩, 0) := by
    unfold decPg; rw [if_neg (by omega), if_neg (by rw [ho]; decide), if_neg (by simpa using hm), if_neg (fun hn => hn hall)]
  have s2 := slice_mid (P := Tryz.prog) (t := 9) (k := .i64) (k' := .i64) (s := strB (b.take 60)) (lo := 4) (hi := 12) (w := w10) (by kernel_rfl) (by omega) (by omega) (by rw [strB_size, hl60]; omega)
  rw [strB_extract] at s2
  have e2 : (((b.take 60).drop (4 : Int).toNat).take ((12 : Int).toNat - (4 : Int).toNat)) = (b.drop 4).take 8 := take_mid b 4 8 (by omega)
  rw [e2] at s2
  refine ⟨_, w10, s2, Alloc.t h4 fun k38 w15 h15 => ?_⟩
  have h15 : T [] w w15 (rowP 3 1 (some k38) 1 1 (ints [8]) :: [blk k2 (pgC pgZ) 38]) := blk_row h15 rfl rfl (by decide)
  have hl8 : ((b.drop 4).take 8).length = 8 := by rw [List.length_take, List.length_drop]; omega
  refine (rdecode_spec (ws := [8]) wid8 (s := strB ((b.drop 4).take 8)) (by rw [strB_size, hl8]; rfl) h15 (g2 := some k38) (n2 := 1) (c2 := 1) rfl (by repeat (first | exact List.Mem.head _ | refine List.Mem.tail _ ?_))).mono fun e w16 ⟨g39, c39, he16, h16⟩ => ⟨_, _, _, _, he16, ?_⟩
  have e8 : decP (strB ((b.drop 4).take 8)).data.toList [8] = [leN ((b.drop 4).take 8)] := by
    show [leN (((b.drop 4).take 8).take 8)] = _
    rw [List.take_take, Nat.min_self]
  rw [e8] at h16
  obtain ⟨b39, rfl⟩ := rowP.pos (h16.says List.mem_cons_self) (by decide)
  have h16 : T [] w w16 (rowP 23 1 (some b39) 1 c39 (u64s [leN ((b.drop 4).take 8)]) :: rowP 3 1 (some k38) 1 1 (ints [8]) :: [blk k2 (pgC pgZ) 38]) := h16
  refine ⟨fun w' => ∃ Δ, rowP 23 1 (some b39) 1 c39 (u64s [leN ((b.drop 4).take 8)]) ∈ Δ ∧ T [] w w' Δ, ⟨_, (by repeat (first | exact List.Mem.head _ | refine List.Mem.tail _ ?_)), h16.drew⟩, ⟨b39, 0, none⟩, rfl, by omega, by simp, (leN ((b.drop 4).take 8) : Int), fun w' ⟨Δ, hm', h'⟩ => rowP.cell (k := 0) (h'.says hm') rfl, ?_⟩
  refine ⟨strB ((b.drop 12).take 8), fun w' _ => ?_, ?_⟩
  · have s3 := slice_mid (P := Tryz.prog) (t := 9) (k := .i64) (k' := .i64) (s := strB (b.take 60)) (lo := 12) (hi := 20) (w := w') (by kernel_rfl) (by omega) (by omega) (by rw [strB_size, hl60]; omega)
    rw [strB_extract] at s3
    have e3 : (((b.take 60).drop (12 : Int).toNat).take ((20 : Int).toNat - (12 : Int).toNat)) = (b.drop 12).take 8 := take_mid b 12 8 (by omega)
    rw [e3] at s3
    exact s3
  refine St.t (c := pgC pgZ) (c' := #[.int .u64 (leN ((b.drop 4).take 8) : Int), .string (ByteArray.mk #[])]) h16.drew (by repeat (first | exact Turn.head | apply Turn.tail)) (show 0 < 2 by decide) rfl rfl fun w19 h19 => ?_
  refine St.t (c := #[.int .u64 (leN ((b.drop 4).take 8) : Int), .string (ByteArray.mk #[])]) (c' := pgC ⟨leN ((b.drop 4).take 8), (b.drop 12).take 8⟩) h19 (by repeat (first | exact Turn.head | apply Turn.tail)) (show 1 < 2 by decide) rfl rfl fun w20 h20 => ⟨⟨_, (by repeat (first | exact List.Mem.head _ | refine List.Mem.tail _ ?_)), h20⟩, _, _, ⟨h20.ld (b := k2) (c := pgC ⟨leN ((b.drop 4).take 8), (b.drop 12).take 8⟩) (by repeat (first | exact List.Mem.head _ | refine List.Mem.tail _ ?_)) rfl, h20.ld (b := k2) (c := pgC ⟨leN ((b.drop 4).take 8), (b.drop 12).take 8⟩) (i := 1) (by repeat (first | exact List.Mem.head _ | refine List.Mem.tail _ ?_)) rfl⟩, ?_, h20.chg.ext⟩
  rw [hdec]; rfl
end Go.Proofs.YtmipjkalfodcpaaGreatDoor
end
section
/-! The reference's pages on drives. -/
namespace Go.Proofs.YtmipjkalfodcpaaGreatDoor
open Go.Sh Go.RowKit
set_option linter.unusedVariables false
set_option linter.unusedSimpArgs false
set_option maxRecDepth 20000
set_option maxHeartbeats 1000000
theorem Rf.top_size {p : Nat} {a : AD} {F : List Nat} {w0 w : World} {X : List A} (h : Rf p a F w0 w X) (hs : ∀ i, (a.top i).size ≤ 64) (i : Int) : (a.read i).1.size ≤ 64 := AD.read_size hs i
section
variable {q : Nat} {a : AD} {F : List Nat} {w0 w : World} {X : List A}
theorem rpload_spec (h : Rf q a F w0 w X) (hF : a.Few 1000000) (hr : (a.read 2).1.size ≤ 1000000) : Ret Tryz.prog 19 #[.pointer (some ⟨q, 0, none⟩)] w (.tuple #[.agg (pgC (loadPg a).1), .int .i64 (loadPg a).2]) := by
  refine ret_of (revetmentref11_Load_calls ?_)
  unfold revetmentref11_Load
  refine Alloc.t (T.nil w) fun k2 w1 h1 => ?_
  refine (rread_r (h.quiet h1.chg.ext) hF 2).mono fun e w2 ⟨he, hx⟩ => ⟨_, _, he, bne_t fun hne => ?_, bne_f fun heq => ?_⟩
  · have h2 := h1.quiet hx
    refine St.t (c' := pgC pgZ) h2 .head (show 0 < 2 by decide) rfl rfl fun w3 h3 => St.t (c' := pgC pgZ) h3 .head (show 1 < 2 by decide) rfl rfl fun w4 h4 => ?_
    refine ⟨_, _, ⟨h4.ld (b := k2) (by repeat (first | exact List.Mem.head _ | refine List.Mem.tail _ ?_)) rfl, h4.ld (b := k2) (i := 1) (by repeat (first | exact List.Mem.head _ | refine List.Mem.tail _ ?_)) rfl⟩, ?_, h4.chg.ext⟩
    unfold loadPg; rw [if_pos hne]; rfl
  · have h2 := h1.quiet hx
    refine (rpdecode_spec (a.read 2).1 hr w2).mono fun e w5 ⟨he5, hx5⟩ => ⟨_, _, _, he5, ?_⟩
    have h5 := h2.quiet hx5
    refine St.t (c' := #[.int .u64 ((decPg (a.read 2).1.data.toList).1.ev : Int), .string (ByteArray.mk #[])]) h5 .head (show 0 < 2 by decide) rfl rfl fun w3 h3 => St.t (c' := pgC (decPg (a.read 2).1.data.toList).1) h3 .head (show 1 < 2 by decide) rfl rfl fun w4 h4 => ?_
    refine ⟨_, _, ⟨h4.ld (b := k2) (c := pgC (decPg (a.read 2).1.data.toList).1) (by repeat (first | exact List.Mem.head _ | refine List.Mem.tail _ ?_)) rfl, h4.ld (b := k2) (c := pgC (decPg (a.read 2).1.data.toList).1) (i := 1) (by repeat (first | exact List.Mem.head _ | refine List.Mem.tail _ ?_)) rfl⟩, ?_, h4.chg.ext⟩
    unfold loadPg; rw [if_neg (by omega)]; rfl
theorem rpsave_r (h : Rf q a F w0 w X) (hF : a.Few 999998) {p : PgV} (he : p.ev < 2 ^ 64) (hb : p.bits.length ≤ 1000000) :
    Calls Tryz.prog 8 #[.pointer (some ⟨q, 0, none⟩), .agg (pgC p)] w fun e w' => e = .returned (.int .i64 (savePg a p).2) ∧ Rf q (savePg a p).1 F w0 w' X := by
  refine (revetmentref11_Save_calls (R := fun v w' => v = .int .i64 (savePg a p).2 ∧ Rf q (savePg a p).1 F w0 w' X) ?_).mono fun e w' ⟨v, he, hv, hd⟩ => ⟨by rw [he, hv], hd⟩
  unfold revetmentref11_Save
  refine h.alloc fun k3 w1 h1 => ⟨_, _, ⟨h1.under.ld (b := k3) (c := pgC p) (by repeat (first | exact List.Mem.head _ | refine List.Mem.tail _ ?_)) rfl, h1.under.ld (b := k3) (c := pgC p) (i := 1) (by repeat (first | exact List.Mem.head _ | refine List.Mem.tail _ ?_)) rfl⟩, ?_⟩
  refine (rpencode_spec he hb w1).mono fun e w2 ⟨he2, hx2⟩ => ⟨_, _, he2, ?_⟩
  have h2 := (h1.quiet hx2).dropX
  by_cases h8 : p.bits.length = 8
  · have ee : encPgF p = (encPg p, 0) := if_pos h8
    rw [ee]
    refine no rfl ((rwrite_r h2 (hF.mono (by decide)) 2 (strB (encPg p))).mono fun e w3 ⟨he3, h3⟩ => ⟨_, he3, ?_⟩)
    by_cases hp : a.put 2 (strB (encPg p)) = 0
    · have hs : savePg a p = ((a.write 2 (strB (encPg p))).flush, (a.write 2 (strB (encPg p))).flush1) := by unfold savePg; rw [if_neg (by omega), if_neg (by omega)]
      rw [hs, hp]
      refine no rfl ((rflush_r h3 ((hF.write _ _).mono (by decide))).mono fun e w4 ⟨he4, h4⟩ => ⟨_, he4, rfl, h4⟩)
    · have hw : a.write 2 (strB (encPg p)) = a := by unfold AD.write; rw [if_pos hp]
      have hs : savePg a p = (a, a.put 2 (strB (encPg p))) := by unfold savePg; rw [if_neg (by omega), if_pos hp]
      rw [hs]
      rw [hw] at h3
      exact yes (by simpa using hp) ⟨rfl, h3⟩
  · have ee : encPgF p = ([], 1) := if_neg h8
    have hs : savePg a p = (a, 1) := by unfold savePg; rw [if_pos h8]
    rw [ee, hs]
    exact yes rfl ⟨rfl, h2⟩
end
section
variable {F : List Nat} {w0 : World}
theorem rpall_spec {l : List Od} {g : Option Nat} {cap c : Nat} {p : PgV} (hl : l.length ≤ 1000000) (he : p.ev < 2 ^ 64) (hb : p.bits.length ≤ 1000000) (hF : FewL l 999998) {w : World} {X : List A} (H : Ow (rsK l) F w0 w X) (hm : rowP 29 1 g l.length cap (ptrsV (blks l)) ∈ X) :
    Calls Tryz.prog 16 #[.slice (ptr g) l.length c, .agg (pgC p)] w fun e w' => e = .returned (.tuple #[.int .i64 (allPg p l).2.1, .int .i64 (allPg p l).2.2]) ∧ Ow (rsK (allPg p l).1) F w0 w' X := by
  refine (revetmentref11_All_calls (R := fun v w' => v = .tuple #[.int .i64 (allPg p l).2.1, .int .i64 (allPg p l).2.2] ∧ Ow (rsK (allPg p l).1) F w0 w' X) ?_).mono fun e w' ⟨v, he, hv, h⟩ => ⟨by rw [he, hv], h⟩
  unfold revetmentref11_All
  refine H.alloc fun k3 w1 h1 => ⟨_, _, ⟨h1.ld (b := k3) (c := pgC p) (by repeat (first | exact List.Mem.head _ | refine List.Mem.tail _ ?_)) rfl, h1.ld (b := k3) (c := pgC p) (i := 1) (by repeat (first | exact List.Mem.head _ | refine List.Mem.tail _ ?_)) rfl⟩, ?_⟩
  refine (rpencode_spec he hb w1).mono fun e w2 ⟨he2, hx2⟩ => ⟨_, _, he2, ?_⟩
  have h2 := h1.quiet hx2
  by_cases h8 : p.bits.length = 8
  rotate_left
  · have e1 : encPgF p = ([], 1) := if_neg h8
    have e2 : allPg p l = (l, 0, 1) := if_neg h8
    rw [e1, e2]
    exact yes rfl ⟨rfl, h2.dropX⟩
  have e1 : encPgF p = (encPg p, 0) := if_pos h8
  have e2 : allPg p l = (l.map (svPg p), (cntPg p l l.length : Int), if cntPg p l l.length = 0 then 60 else 0) := if_pos h8
  rw [e1, e2]
  have hbl := blks_len l
  refine no rfl ⟨fun vs w' => ∃ k : Nat, vs = [.int .i64 (cntPg p l k : Int), .int .i64 (k : Int)] ∧ k ≤ l.length ∧ Ow (rsK (svPgs p l k)) F w0 w' (blk k3 (pgC p) 38 :: X), fun vs _ => match vs with | [_, .int _ k] => (l.length - k).toNat | _ => 0, ⟨0, rfl, by omega, by rw [svPgs_zero]; exact h2⟩, ?_⟩
  rintro vs w3 ⟨k, rfl, hk, h3⟩
  refine ⟨_, _, rfl, dec_t fun hlt => ?_, dec_f fun hge => ?_⟩
  · have hlt : k < l.length := by omega
    have hms : ((l.length : Int) - IntKind.i64.wrap ((k : Int) + 1)).toNat < ((l.length : Int) - (k : Int)).toNat := by rw [wrap64 _ (by omega) (by omega)]; omega
    have hnx : IntKind.i64.wrap ((k : Int) + 1) = ((k + 1 : Nat) : Int) := by rw [wrap64 _ (by omega) (by omega)]; omega
    obtain ⟨b, rfl, _⟩ := Ow.pcell h3 (List.mem_cons_of_mem _ hm) (k := k) (by omega)
    have hcell : ∀ w', T F w0 w' (blk k3 (pgC p) 38 :: X) → w'.cell? (Addr.add ⟨b, 0, none⟩ ((k : Int).toNat * 1)) = some (.pointer (ptr ((blks l).getD k none))) := fun w' h' => by
      rw [Int.toNat_natCast]; exact T.pcell h' (List.mem_cons_of_mem _ hm) (by omega)
    obtain ⟨x, hx⟩ : ∃ x, l[k]? = some x := ⟨_, List.getElem?_eq_getElem hlt⟩
    have hg : (blks l).getD k none = odB x := by rw [List.getD_eq_getElem?_getD, blks_get hx]; rfl
    rw [hg] at hcell
    have hcn := cntPg_next p hx
    have hcl := cntPg_le p l k
    refine ⟨fun w' => T F w0 w' (blk k3 (pgC p) 38 :: X), h3.drew.under, ⟨b, 0, none⟩, rfl, by omega, by omega, ptr (odB x), hcell, ?_⟩
    cases x with
    | none =>
      refine no rfl ⟨⟨k + 1, ?_, by omega, by rw [svPgs_skip p hx]; exact h3.drew⟩, hms⟩
      rw [hnx, hcn]; rfl
    | some y =>
      obtain ⟨q, a⟩ := y
      have hFa : a.Few 999998 := hF q a (List.mem_of_getElem? hx)
      refine yes rfl ⟨⟨b, 0, none⟩, rfl, by omega, by omega, _, hcell, (p.ev : Int), strB p.bits, fun w' h' => ⟨h'.ld (b := k3) (c := pgC p) (by repeat (first | exact List.Mem.head _ | refine List.Mem.tail _ ?_)) rfl, h'.ld (b := k3) (c := pgC p) (i := 1) (by repeat (first | exact List.Mem.head _ | refine List.Mem.tail _ ?_)) rfl⟩, ?_⟩
      refine (Ow.onRef (k := k) (p := q) (a := a) (b := (savePg a p).1) (v := .int .i64 (savePg a p).2) h3.drew (by rw [svPgs_get]; exact hx) fun Z hZ => rpsave_r hZ hFa he hb).mono fun e w7 ⟨he7, h7⟩ => ⟨_, he7, ?_⟩
      have e7 : (svPgs p l k).set k (some (q, (savePg a p).1)) = svPgs p l (k + 1) := svPgs_next p hx
      rw [e7] at h7
      refine ⟨h7.under, ?_⟩
      by_cases h0 : (savePg a p).2 = 0
      · have ok : okPg p (some (q, a)) = true := by simp [okPg, h0]
        rw [if_pos ok] at hcn
        rw [h0]
        refine yes rfl ⟨⟨k + 1, ?_, by omega, h7⟩, hms⟩
        rw [hnx, hcn, wrap64 _ (by omega) (by omega)]; rfl
      · have ok : ¬ okPg p (some (q, a)) = true := by simp [okPg, h0]
        rw [if_neg ok] at hcn
        refine no (by simpa using h0) ⟨⟨k + 1, ?_, by omega, h7⟩, hms⟩
        rw [hnx, hcn]; rfl
  · have hke : k = l.length := by omega
    subst hke
    rw [svPgs_all] at h3
    by_cases hc : cntPg p l l.length = 0
    · rw [hc]
      exact yes rfl ⟨rfl, h3.dropX⟩
    · rw [if_neg hc]
      exact no (by simpa using hc) ⟨rfl, h3.dropX⟩
theorem rpjoin_spec {l : List Od} {g : Option Nat} {cap c n : Nat} (hl : l.length ≤ 1000000) (hF : FewL l 1000000) (hsz : ∀ q a, some (q, a) ∈ l → (a.read 2).1.size ≤ 1000000) {w : World} {X : List A} (H : Ow (rsK l) F w0 w X) (hm : rowP 29 1 g l.length cap (ptrsV (blks l)) ∈ X) :
    Calls Tryz.prog 21 #[.slice (ptr g) l.length c, .int .u64 (n : Int)] w fun e w' => e = .returned (.tuple #[.string (strB (jnPgs n l l.length).1), .bool (jnPgs n l l.length).2]) ∧ Ow (rsK l) F w0 w' X := by
  refine (revetmentref11_Join_calls (R := fun v w' => v = .tuple #[.string (strB (jnPgs n l l.length).1), .bool (jnPgs n l l.length).2] ∧ Ow (rsK l) F w0 w' X) ?_).mono fun e w' ⟨v, he, hv, h⟩ => ⟨by rw [he, hv], h⟩
  unfold revetmentref11_Join
  refine H.alloc fun k12 w1 h1 => ?_
  have hbl := blks_len l
  refine ⟨fun vs w' => ∃ k : Nat, vs = [.bool (jnPgs n l k).2, .int .i64 (k : Int)] ∧ k ≤ l.length ∧ Ow (rsK l) F w0 w' (blk k12 (bvals (jnPgs n l k).1).toArray 5 :: X), fun vs _ => match vs with | [_, .int _ k] => (l.length - k).toNat | _ => 0, ⟨0, rfl, by omega, h1⟩, ?_⟩
  rintro vs w2 ⟨k, rfl, hk, h2⟩
  refine ⟨_, _, rfl, dec_t fun hlt => ?_, dec_f fun hge => ?_⟩
  · have hlt : k < l.length := by omega
    have hms : ((l.length : Int) - IntKind.i64.wrap ((k : Int) + 1)).toNat < ((l.length : Int) - (k : Int)).toNat := by rw [wrap64 _ (by omega) (by omega)]; omega
    have hnx : IntKind.i64.wrap ((k : Int) + 1) = ((k + 1 : Nat) : Int) := by rw [wrap64 _ (by omega) (by omega)]; omega
    obtain ⟨b, rfl, hcell⟩ := Ow.pcell h2 (List.mem_cons_of_mem _ hm) (k := k) (by omega)
    obtain ⟨x, hx⟩ : ∃ x, l[k]? = some x := ⟨_, List.getElem?_eq_getElem hlt⟩
    have hg : (blks l).getD k none = odB x := by rw [List.getD_eq_getElem?_getD, blks_get hx]; rfl
    rw [hg] at hcell
    have hnxt := jnPgs_next n hx
    have hb8 := jnPgs_len n l k
    have go : ∀ w', Ow (rsK l) F w0 w' (blk k12 (bvals (jnPgs n l (k + 1)).1).toArray 5 :: X) → ∃ j : Nat, ([.bool (jnPgs n l (k + 1)).2, .int .i64 (IntKind.i64.wrap ((k : Int) + 1))] : List Value) = [.bool (jnPgs n l j).2, .int .i64 (j : Int)] ∧ j ≤ l.length ∧ Ow (rsK l) F w0 w' (blk k12 (bvals (jnPgs n l j).1).toArray 5 :: X) := fun w' h' => ⟨k + 1, by rw [hnx], by omega, h'⟩
    generalize jnPgs n l (k + 1) = s' at hnxt go
    refine ⟨⟨b, 0, none⟩, rfl, by omega, by omega, ptr (odB x), by rw [Int.toNat_natCast]; exact hcell, ?_⟩
    cases x with
    | none =>
      have : s' = jnPgs n l k := hnxt
      subst this
      exact yes rfl ⟨go w2 h2, hms⟩
    | some y =>
      obtain ⟨q, a⟩ := y
      refine no rfl ⟨⟨b, 0, none⟩, rfl, by omega, by omega, ptr (odB (some (q, a))), by rw [Int.toNat_natCast]; exact hcell, ?_⟩
      have hFa : a.Few 1000000 := hF q a (List.mem_of_getElem? hx)
      have hra := hsz q a (List.mem_of_getElem? hx)
      generalize jnPgs n l k = s at hnxt h2 hb8
      obtain ⟨Z, hZ, _⟩ := Ow.rdrive (k := k) h2 hx
      refine (rpload_spec hZ hFa hra).mono fun e w7 ⟨he7, hx7⟩ => ⟨_, _, _, he7, ?_⟩
      refine (h2.quiet hx7).alloc fun k9 w8 h8 => h8.st (c := pgC pgZ) (c' := #[.int .u64 ((loadPg a).1.ev : Int), .string (ByteArray.mk #[])]) .head (show 0 < 2 by decide) rfl rfl fun w9 h9 => h9.st (c' := pgC (loadPg a).1) .head (show 1 < 2 by decide) rfl rfl fun w10 h10 => ?_
      refine ⟨bne_t fun hne => ?_, bne_f fun heq => ?_⟩
      · have : s' = s := by rw [hnxt]; show jnA n s a = _; unfold jnA; rw [if_pos (.inl hne)]
        subst this
        exact ⟨go w10 h10.dropX, hms⟩
      refine ⟨_, h10.ld (b := k9) (c := pgC (loadPg a).1) (by repeat (first | exact List.Mem.head _ | refine List.Mem.tail _ ?_)) rfl, dec_t fun hlt => ?_, dec_f fun hge => ?_⟩
      · have : s' = s := by rw [hnxt]; show jnA n s a = _; unfold jnA; rw [if_pos (.inr (by omega))]
        subst this
        exact ⟨go w10 h10.dropX, hms⟩
      have hs' : s' = (orL s.1 (loadPg a).1.bits, true) := by rw [hnxt]; show jnA n s a = _; unfold jnA; rw [if_neg (by omega)]
      have hbits := loadPg_bits heq
      refine ⟨fun vs w' => ∃ i : Nat, vs = [.int .i64 (i : Int)] ∧ i ≤ 8 ∧ Ow (rsK l) F w0 w' (blk k9 (pgC (loadPg a).1) 38 :: blk k12 (bvals (orI s.1 (loadPg a).1.bits i)).toArray 5 :: X), fun vs _ => match vs with | [.int _ i] => (8 - i).toNat | _ => 0, ⟨0, rfl, by omega, by rw [orI_zero hb8]; exact h10⟩, ?_⟩
      rintro vs w12 ⟨i, rfl, hi, h12⟩
      refine ⟨_, rfl, dec_t fun hlt => ?_, dec_f fun hge => ?_⟩
      · have hlt : i < 8 := by omega
        refine ⟨fun w' => Ow (rsK l) F w0 w' (blk k9 (pgC (loadPg a).1) 38 :: blk k12 (bvals (orI s.1 (loadPg a).1.bits i)).toArray 5 :: X), h12.drew, ⟨k12, 0, none⟩, rfl, by omega, by omega, ((s.1.getD i 0).toNat : Int), fun w' h' => ?_, strB (loadPg a).1.bits, fun w' h' => h'.ld (b := k9) (c := pgC (loadPg a).1) (i := 1) (by repeat (first | exact List.Mem.head _ | refine List.Mem.tail _ ?_)) rfl, (((loadPg a).1.bits.getD i 0).toNat : Int), fun w' _ => ?_, ⟨k12, 0, none⟩, rfl, by omega, by omega, ?_⟩
        · rw [addr_add, Nat.zero_add, Nat.mul_one, Int.toNat_natCast]
          refine h'.ld (b := k12) (by repeat (first | exact List.Mem.head _ | refine List.Mem.tail _ ?_)) (bvals_cells _ ?_)
          rw [orI_get _ _ _ hlt, if_neg (by omega)]
        · have := index_str (P := Tryz.prog) (t := 9) (k := .i64) (n := (i : Int)) (s := strB (loadPg a).1.bits) (w := w') (by kernel_rfl) (by omega) (by rw [strB_size]; omega)
          rw [Int.toNat_natCast] at this
          exact this
        · rw [u8_or, addr_add, Nat.zero_add, Nat.mul_one, Int.toNat_natCast]
          refine h12.drew.st (c' := (bvals (orI s.1 (loadPg a).1.bits (i + 1))).toArray) (by repeat (first | exact Turn.head | apply Turn.tail)) (by simp [bvals_len, orI_len]; omega) (by rw [bvals_setA, orI_next _ _ hlt]) rfl fun w13 h13 => ⟨⟨i + 1, ?_, by omega, h13⟩, ?_⟩
          · rw [wrap64 _ (by omega) (by omega)]; rfl
          · show ((8 : Int) - IntKind.i64.wrap ((i : Int) + 1)).toNat < ((8 : Int) - (i : Int)).toNat
            rw [wrap64 _ (by omega) (by omega)]; omega
      · obtain rfl : i = 8 := by omega
        rw [orI_all] at h12
        subst hs'
        exact ⟨go w12 h12.dropX, hms⟩
  · have hke : k = l.length := by omega
    subst hke
    have h8 := jnPgs_len n l l.length
    generalize jnPgs n l l.length = s at h2 h8
    have h1 := run_convert_bytes_back (P := Tryz.prog) w2 80 9 5 ⟨k12, 0, none⟩ 8 s.1 (by kernel_rfl) (by kernel_rfl) (by kernel_rfl) (fun j hj => by
      rw [addr_add, Nat.zero_add]
      refine h2.ld (b := k12) (by repeat (first | exact List.Mem.head _ | refine List.Mem.tail _ ?_)) (bvals_cells _ ?_)
      rw [List.getElem?_eq_getElem hj])
    rw [h8] at h1
    exact ⟨_, w2, h1, rfl, h2.dropX⟩
end
end Go.Proofs.YtmipjkalfodcpaaGreatDoor
end
section
/-! law11: PagesActs. -/
namespace Go.Proofs.YtmipjkalfodcpaaGreatDoor
open Go.Sh Go.RowKit
set_option linter.unusedVariables false
set_option linter.unusedSimpArgs false
set_option maxRecDepth 20000
set_option maxHeartbeats 2000000
structure PA where
  k : Int
  i : Int
  ev : Nat
  s : List UInt8
def paC (x : PA) : Array Value := #[.int .i64 x.k, .int .u8 x.i, .int .u64 (x.ev : Int), .string (strB x.s)]
structure PAt (w : World) (a : Addr) (x : PA) : Prop where
  at_ : ∀ j v, (paC x)[j]? = some v → w.cell? (a.add j) = some v
  u8 : 0 ≤ x.i ∧ x.i < 256
  u64 : x.ev < 2 ^ 64
def pactsAt (w : World) (p : Option Addr) (l : List PA) : Prop := (l ≠ [] → ∃ a, p = some a) ∧ ∀ a, p = some a → ∀ j x, l[j]? = some x → PAt w (a.add (j * 4)) x
theorem pactsAt.get {w : World} {p : Option Addr} {l : List PA} (h : pactsAt w p l) {n : Nat} (h1 : n < l.length) : ∃ a, p = some a ∧ ∀ w', Ext w w' → PAt w' (a.add (n * 4)) l[n] := by
  obtain ⟨a, rfl⟩ := h.1 (fun e => by rw [e] at h1; simp at h1)
  have h2 := h.2 a rfl n l[n] (List.getElem?_eq_getElem h1)
  exact ⟨a, rfl, fun w' hx => ⟨fun j v hv => cell_ext hx (h2.at_ j v hv), h2.u8, h2.u64⟩⟩
/-- what is told of drives is told of how they stand -/
def okO (p : PgV) : Option AD → Bool
  | none => false
  | some a => (savePg a p).2 == 0
theorem okPg_ad (p : PgV) (x : Od) : okPg p x = okO p (adO x) := by cases x <;> rfl
theorem cnt_ads (p : PgV) {l m : List Od} (h : ads l = ads m) : cntPg p l l.length = cntPg p m m.length := by
  have key : ∀ l : List Od, cntPg p l l.length = ((ads l).filter (okO p)).length := fun l => by
    unfold cntPg ads
    rw [List.take_length, List.filter_map, List.length_map]
    congr 1
    apply List.filter_congr
    intro x _
    exact okPg_ad p x
  rw [key, key, h]
def jnO (n : Nat) (s : List UInt8 × Bool) : Option AD → List UInt8 × Bool
  | none => s
  | some a => jnA n s a
theorem jn_ads (n : Nat) {l m : List Od} (h : ads l = ads m) : jnPgs n l l.length = jnPgs n m m.length := by
  have key : ∀ (l : List Od) (s : List UInt8 × Bool), l.foldl (jnPg n) s = (ads l).foldl (jnO n) s := by
    intro l
    induction l with
    | nil => intro s; rfl
    | cons x l ih =>
      intro s
      show l.foldl (jnPg n) (jnPg n s x) = (ads l).foldl (jnO n) (jnO n s (adO x))
      rw [ih]
      cases x <;> rfl
  unfold jnPgs
  rw [List.take_length, List.take_length, key, key, h]
theorem sv_ads (p : PgV) {l m : List Od} (h : ads l = ads m) : ads (l.map (svPg p)) = ads (m.map (svPg p)) := by
  have key : ∀ l : List Od, ads (l.map (svPg p)) = (ads l).map (fun x => x.map fun a => (savePg a p).1) := fun l => by
    unfold ads
    rw [List.map_map, List.map_map]
    apply List.map_congr_left
    intro x _
    cases x <;> rfl
  rw [key, key, h]
theorem all_ads (p : PgV) {l m : List Od} (h : ads l = ads m) : ads (allPg p l).1 = ads (allPg p m).1 ∧ (allPg p l).2 = (allPg p m).2 := by
  unfold allPg
  split
  · exact ⟨sv_ads p h, by rw [cnt_ads p h]⟩
  · exact ⟨h, rfl⟩
/-- both sets of drives, alike -/
structure PI (l m : List Od) (B C : List (Option Nat)) (N : Nat) : Prop where
  same : ads l = ads m
  b1 : blks l = B
  b2 : blks m = C
  len : l.length = 5
  some4 : ∀ k, k < 4 → ∃ q a, l[k]? = some (some (q, a))
  few : FewL l N
theorem PI.set {l m : List Od} {B C : List (Option Nat)} {N M : Nat} (h : PI l m B C N) (hM : N ≤ M) {k p q : Nat} {a b c : AD} (hp : l[k]? = some (some (p, a))) (hq : m[k]? = some (some (q, c))) (hb : b.Few M) : PI (l.set k (some (p, b))) (m.set k (some (q, b))) B C M :=
  ⟨ads_set h.same, (blks_set hp).trans h.b1, (blks_set hq).trans h.b2, by rw [List.length_set]; exact h.len, fun j hj => by
    by_cases e : k = j
    · subst e; exact ⟨p, b, by rw [List.getElem?_set_self (List.getElem?_eq_some_iff.1 hp).1]⟩
    · obtain ⟨q', a', h'⟩ := h.some4 j hj
      exact ⟨q', a', by rw [List.getElem?_set, if_neg e]; exact h'⟩, (h.few.mono hM).set hb⟩
theorem PI.all {l m : List Od} {B C : List (Option Nat)} {N : Nat} (h : PI l m B C N) (p : PgV) : PI (allPg p l).1 (allPg p m).1 B C (N + 1) := by
  have e1 : ∀ l : List Od, blks (l.map (svPg p)) = blks l := fun l => by have := blks_sv p l l.length; rw [svPgs_all] at this; exact this
  refine ⟨(all_ads p h.same).1, ?_, ?_, ?_, fun k hk => ?_, fun q a hm => ?_⟩
  · unfold allPg; split
    · exact (e1 l).trans h.b1
    · exact h.b1
  · unfold allPg; split
    · exact (e1 m).trans h.b2
    · exact h.b2
  · unfold allPg; split
    · show (l.map _).length = 5; rw [List.length_map]; exact h.len
    · exact h.len
  · obtain ⟨q, a, hq⟩ := h.some4 k hk
    unfold allPg; split
    · exact ⟨q, _, by show (l.map (svPg p))[k]? = _; rw [List.getElem?_map, hq]; rfl⟩
    · exact ⟨q, a, hq⟩
  · unfold allPg at hm
    split at hm
    · obtain ⟨x, hx, he⟩ := List.mem_map.1 hm
      cases x with
      | none => cases he
      | some y =>
        obtain ⟨q', a'⟩ := y
        have : (savePg a' p).1 = a := by
          have := Option.some.inj he
          exact (Prod.mk.inj this).2
        rw [← this]
        exact few_savePg (h.few q' a' hx) p
    · exact (h.few q a hm).mono (by omega)
theorem St4.t {h : Kd} {F : List Nat} {w0 w : World} {X : List A} {k : Nat} {t : TypeId} {x : PA} {K : World → Prop} (H : Ow h F w0 w (blk k #[.int .i64 0, .int .u8 0, .int .u64 0, .string (ByteArray.mk #[])] t :: X)) (hK : ∀ w', Ow h F w0 w' (blk k (paC x) t :: X) → K w') :
    St ⟨k, 0, none⟩ (.int .i64 x.k) w fun w1 => St ⟨k, 1, none⟩ (.int .u8 x.i) w1 fun w2 => St ⟨k, 2, none⟩ (.int .u64 (x.ev : Int)) w2 fun w3 => St ⟨k, 3, none⟩ (.string (strB x.s)) w3 K :=
  H.st (c' := #[.int .i64 x.k, .int .u8 0, .int .u64 0, .string (ByteArray.mk #[])]) .head (show 0 < 4 by decide) rfl rfl fun w1 h1 =>
    h1.st (c' := #[.int .i64 x.k, .int .u8 x.i, .int .u64 0, .string (ByteArray.mk #[])]) .head (show 1 < 4 by decide) rfl rfl fun w2 h2 =>
      h2.st (c' := #[.int .i64 x.k, .int .u8 x.i, .int .u64 (x.ev : Int), .string (ByteArray.mk #[])]) .head (show 2 < 4 by decide) rfl rfl fun w3 h3 =>
        h3.st (c' := paC x) .head (show 3 < 4 by decide) rfl rfl hK
theorem Ow.newPg {h : Kd} {F : List Nat} {w0 w : World} {X : List A} {t : TypeId} {y : PgV} {K : Nat → World → Prop} (H : Ow h F w0 w X) (hK : ∀ b w', Ow h F w0 w' (blk b (pgC y) t :: X) → K b w') :
    Alloc #[.int .u64 0, .string (ByteArray.mk #[])] t w fun b w1 => St ⟨b, 0, none⟩ (.int .u64 (y.ev : Int)) w1 fun w2 => St ⟨b, 1, none⟩ (.string (strB y.bits)) w2 (K b) :=
  H.alloc fun b w1 h1 => h1.st (c := pgC pgZ) (c' := #[.int .u64 (y.ev : Int), .string (ByteArray.mk #[])]) .head (show 0 < 2 by decide) rfl rfl fun w2 h2 => h2.st (c' := pgC y) .head (show 1 < 2 by decide) rfl rfl fun w3 h3 => hK b w3 h3
theorem push_ow {h : Kd} {F : List Nat} {w0 w : World} {X Δ : List A} {t e : TypeId} {i : TypeInfo} {z v : Value} (ht : Tryz.prog.underlying t = some (.slice e)) (hi : Tryz.prog.info? e = some i) (hz : i.zero = some z) (hsize : i.size = 1) (hzs : z.cells.size = 1) (hby : decide (i.bytes ≤ 1000000) = true)
    {g : Option Nat} {n cap : Nat} {xs : List Value} (H : Ow h F w0 w X) (hk : Pick (rowP e 1 g n cap xs) X Δ) (hv : v.oneCell' = true) (hn : n ≤ 1000000) {K : Option Addr → Nat → Nat → World → Prop} (hK : ∀ g' cap' w', Ow h F w0 w' (rowP e 1 (some g') (n + 1) cap' (xs ++ [v]) :: Δ) → K (some ⟨g', 0, none⟩) (n + 1) cap' w') :
    Alloc #[v] e w fun k w1 => ∃ (p : Option Addr) (l c : Nat), ∃ w2, (builtin .append #[t, t] t #[false, false] #[.slice (ptr g) n cap, .slice (some ⟨k, 0, none⟩) 1 1]).run Tryz.prog w1 = .ok (.value (.slice p l c)) w2 ∧ K p l c w2 := by
  obtain ⟨Y, hY, hT⟩ := H
  refine push1_t ht hi hz hsize hzs hby hT (hk.app Y) hv hn fun g' cap' w' h' => ?_
  obtain ⟨b, rfl⟩ := rowP.pos (h'.says List.mem_cons_self) (by omega)
  exact hK b cap' w' ⟨Y, hY, h'⟩
theorem fullL_run (s : List UInt8) (hs : s.length ≤ 1000000) (w : World) : (Instr.sliceAt 9 (.string (strB s ++ zeroSec)) none (some (.int .i64 64)) none).run Tryz.prog w = .ok (.string ((strB s ++ zeroSec).extract 0 64)) w := by
  have := slice_to (P := Tryz.prog) (t := 9) (k := .i64) (s := strB s ++ zeroSec) (hi := 64) (w := w) (by kernel_rfl) (by omega) (by rw [ByteArray.size_append, zeroSec_size, strB_size]; omega)
  exact this
theorem actsP_law {l : List PA} {n : Int} {p0 : Option Addr} {c0 : Nat} {w : World} (H : pactsAt w p0 l) (hn : 0 ≤ n ∧ n < 18446744073709551616) :
    Ret Tryz.prog 3 #[.slice p0 l.length c0, .int .u64 n] w (.bool true) := by
  refine ret_of (revetmentlaw11_PagesActs_calls ?_)
  unfold revetmentlaw11_PagesActs
  obtain ⟨fr, rfl⟩ : ∃ fr : Nat, n = (fr : Int) := ⟨n.toNat, by omega⟩
  refine ⟨dec_t fun _ => pshown_end (.refl w), dec_f fun hl60 => ?_⟩
  refine (pshown_spec w).mono fun e w2 ⟨he2, hx2⟩ => ⟨_, he2, no rfl ?_⟩
  have h2 : Ow (star (dsK []) (rsK [])) [] w w2 [] := by
    refine ⟨[], ⟨[], [], rfl, rfl, rfl⟩, ?_⟩
    exact (T.nil w).quiet hx2
  refine h2.alloc fun k33 w4 h4 => ?_
  have h4 : Ow (star (dsK []) (rsK [])) [] w w4 [rowP 27 1 (some k33) 0 0 (ptrsV (blks []))] := h4.into fun Y hT hb => hb _ _ (blk_row hT rfl rfl (by decide))
  refine h4.alloc fun k34 w5 h5 => ?_
  have h5 : Ow (star (dsK []) (rsK [])) [] w w5 [rowP 29 1 (some k34) 0 0 (ptrsV (blks [])), rowP 27 1 (some k33) 0 0 (ptrsV (blks []))] := h5.into fun Y hT hb => hb _ _ (blk_row hT rfl rfl (by decide))
  refine ⟨fun vs w' => ∃ (i : Nat) (ds rs : List Od) (g1 g2 cap1 cap2 : Nat), vs = [.slice (some ⟨g1, 0, none⟩) ds.length cap1, .slice (some ⟨g2, 0, none⟩) rs.length cap2, .int .i64 (i : Int)] ∧ i ≤ 4 ∧ ds.length = i ∧ rs.length = i ∧ ads ds = ads rs ∧ (∀ k, k < i → ∃ q a, ds[k]? = some (some (q, a))) ∧ FewL ds 0 ∧
      Ow (star (dsK ds) (rsK rs)) [] w w' [rowP 29 1 (some g2) rs.length cap2 (ptrsV (blks rs)), rowP 27 1 (some g1) ds.length cap1 (ptrsV (blks ds))], fun vs _ => match vs with | [_, _, .int _ i] => (4 - i).toNat | _ => 0, ⟨0, [], [], k33, k34, 0, 0, rfl, by omega, rfl, rfl, rfl, (fun k hk => by omega), (fun q a hq => by cases hq), h5⟩, ?_⟩
  rintro vs w6 ⟨i, ds, rs, g1, g2, cap1, cap2, rfl, hi, hdl, hrl, hads, hsome, hfew, h6⟩
  refine ⟨_, _, _, _, _, _, _, rfl, dec_t fun hlt => ?_, dec_f fun hge => ?_⟩
  · have hlt : i < 4 := by omega
    have hms : ((4 : Int) - IntKind.i64.wrap ((i : Int) + 1)).toNat < ((4 : Int) - (i : Int)).toNat := by rw [wrap64 _ (by omega) (by omega)]; omega
    have hnx : IntKind.i64.wrap ((i : Int) + 1) = ((i + 1 : Nat) : Int) := by rw [wrap64 _ (by omega) (by omega)]; omega
    refine Ow.newD h6 (n := 3) (by omega) fun q w7 h7 => ⟨_, rfl, ?_⟩
    have h7 := Ow.addD h7
    refine push_ow (i := Tryz.t27) (z := .pointer none) (v := .pointer (some ⟨q, 0, none⟩)) (g := some g1) (by kernel_rfl) (by kernel_rfl) (by kernel_rfl) (by kernel_rfl) (by kernel_rfl) (by kernel_rfl) h7 (.tail .head) rfl (by omega) fun g1' cap1' w9 h9 => ?_
    refine Ow.newR h9 (n := 3) (by omega) fun q2 w10 h10 => ⟨_, rfl, ?_⟩
    have h10 := Ow.addR h10
    refine push_ow (i := Tryz.t29) (z := .pointer none) (v := .pointer (some ⟨q2, 0, none⟩)) (g := some g2) (by kernel_rfl) (by kernel_rfl) (by kernel_rfl) (by kernel_rfl) (by kernel_rfl) (by kernel_rfl) h10 (.tail .head) rfl (by omega) fun g2' cap2' w12 h12 => ?_
    have eb1 : ptrsV (blks ds) ++ [.pointer (some ⟨q, 0, none⟩)] = ptrsV (blks (ds ++ [some (q, AD.new 3)])) := (blks_snoc ds (some (q, AD.new 3))).symm
    have eb2 : ptrsV (blks rs) ++ [.pointer (some ⟨q2, 0, none⟩)] = ptrsV (blks (rs ++ [some (q2, AD.new 3)])) := (blks_snoc rs (some (q2, AD.new 3))).symm
    rw [eb1, eb2] at h12
    have ln1 : (ds ++ [some (q, AD.new 3)]).length = ds.length + 1 := by rw [List.length_append]; rfl
    have ln2 : (rs ++ [some (q2, AD.new 3)]).length = rs.length + 1 := by rw [List.length_append]; rfl
    have hcell := T.pcell h12.under (t := 27) (b := g1') (n := ds.length + 1) (cap := cap1') (ps := blks (ds ++ [some (q, AD.new 3)])) (by repeat (first | exact List.Mem.head _ | refine List.Mem.tail _ ?_)) (k := i) (by rw [blks_len, ln1]; omega)
    have hgd : (blks (ds ++ [some (q, AD.new 3)])).getD i none = some q := by rw [List.getD_eq_getElem?_getD, blks_get (x := some (q, AD.new 3)) (by rw [List.getElem?_append_right (by omega), hdl, Nat.sub_self]; rfl)]; rfl
    rw [hgd] at hcell
    refine ⟨⟨g1', 0, none⟩, rfl, by omega, by omega, _, by rw [Int.toNat_natCast]; exact hcell, no rfl ⟨⟨i + 1, ds ++ [some (q, AD.new 3)], rs ++ [some (q2, AD.new 3)], g1', g2', cap1', cap2', by rw [hnx, ln1, ln2], by omega, by omega, by omega, by rw [ads_snoc, ads_snoc, hads]; rfl, fun k hk => ?_, fun q' a' hm => ?_, by rw [ln1, ln2]; exact h12⟩, hms⟩⟩
    · rcases Nat.lt_or_ge k i with h | h
      · obtain ⟨q', a', hq'⟩ := hsome k h
        exact ⟨q', a', by rw [List.getElem?_append_left (by omega)]; exact hq'⟩
      · obtain rfl : k = i := by omega
        exact ⟨q, AD.new 3, by rw [List.getElem?_append_right (by omega), hdl, Nat.sub_self]; rfl⟩
    · rcases List.mem_append.1 hm with hm | hm
      · exact hfew q' a' hm
      · simp at hm
        rw [hm.2]; exact few_new 3 0
  obtain rfl : i = 4 := by omega
  refine push_ow (i := Tryz.t27) (z := .pointer none) (v := .pointer none) (g := some g1) (by kernel_rfl) (by kernel_rfl) (by kernel_rfl) (by kernel_rfl) (by kernel_rfl) (by kernel_rfl) h6 (.tail .head) rfl (by omega) fun b1 c1 w14 h14 => ?_
  refine push_ow (i := Tryz.t29) (z := .pointer none) (v := .pointer none) (g := some g2) (by kernel_rfl) (by kernel_rfl) (by kernel_rfl) (by kernel_rfl) (by kernel_rfl) (by kernel_rfl) h14 (.tail .head) rfl (by omega) fun b2 c2 w16 h16 => ?_
  have h16 := Ow.addRN (Ow.addDN h16)
  have eb1 : ptrsV (blks ds) ++ [.pointer none] = ptrsV (blks (ds ++ [none])) := (blks_snoc ds none).symm
  have eb2 : ptrsV (blks rs) ++ [.pointer none] = ptrsV (blks (rs ++ [none])) := (blks_snoc rs none).symm
  have hPI : PI (ds ++ [none]) (rs ++ [none]) (blks (ds ++ [none])) (blks (rs ++ [none])) 0 := ⟨by rw [ads_snoc, ads_snoc, hads], rfl, rfl, by rw [List.length_append, hdl]; rfl, fun k hk => by
    obtain ⟨q, a, h⟩ := hsome k hk
    exact ⟨q, a, by rw [List.getElem?_append_left (by omega)]; exact h⟩, fun q a hm => by
    rcases List.mem_append.1 hm with hm | hm
    · exact hfew q a hm
    · simp at hm⟩
  have lB : (blks (ds ++ [none])).length = 5 := by rw [blks_len, List.length_append, hdl]; rfl
  have lC : (blks (rs ++ [none])).length = 5 := by rw [blks_len, List.length_append, hrl]; rfl
  rw [eb1, eb2, hdl, hrl] at h16
  rw [hdl, hrl]
  generalize ds ++ [none] = l1 at h16 hPI lB
  generalize rs ++ [none] = l2 at h16 hPI lC
  generalize hB : blks l1 = B at h16 hPI lB
  generalize hC : blks l2 = C at h16 hPI lC
  refine ⟨fun vs w' => ∃ (j : Nat) (l1 l2 : List Od), vs = [.int .i64 (j : Int)] ∧ j ≤ l.length ∧ PI l1 l2 B C j ∧ Ow (star (dsK l1) (rsK l2)) [] w w' [rowP 29 1 (some b2) 5 c2 (ptrsV C), rowP 27 1 (some b1) 5 c1 (ptrsV B)], fun vs _ => match vs with | [.int _ j] => (l.length - j).toNat | _ => 0, ⟨0, l1, l2, rfl, by omega, hPI, h16⟩, ?_⟩
  clear h16 hPI hB hC eb1 eb2 h6 h5 h4 h2 h14
  rintro vs w17 ⟨j, l1, l2, rfl, hj, hPI, h17⟩
  refine ⟨_, rfl, dec_t fun hlt => ?_, dec_f fun hge => ⟨rfl, h17.ext⟩⟩
  have hlt : j < l.length := by omega
  have hms : ((l.length : Int) - IntKind.i64.wrap ((j : Int) + 1)).toNat < ((l.length : Int) - (j : Int)).toNat := by rw [wrap64 _ (by omega) (by omega)]; omega
  have hnx : IntKind.i64.wrap ((j : Int) + 1) = ((j + 1 : Nat) : Int) := by rw [wrap64 _ (by omega) (by omega)]; omega
  obtain ⟨a66, rfl, hat⟩ := H.get hlt
  have hat17 := hat w17 h17.ext
  generalize l[j] = x at hat17 hat
  have hzero : ∀ a : Addr, a.add 0 = a := fun a => by simp [Addr.add]
  refine ⟨a66, rfl, by omega, by omega, x.k, x.i, (x.ev : Int), strB x.s, ⟨?_, ?_, ?_, ?_⟩, ?_⟩
  · rw [Int.toNat_natCast]; have := hat17.at_ 0 _ rfl; rw [hzero] at this; exact this
  · rw [Int.toNat_natCast]; exact hat17.at_ 1 _ rfl
  · rw [Int.toNat_natCast]; exact hat17.at_ 2 _ rfl
  · rw [Int.toNat_natCast]; exact hat17.at_ 3 _ rfl
  have hu8 := hat17.u8
  have hu64 := hat17.u64
  clear hat hat17
  refine h17.alloc fun k9 w18 h18 => St4.t (x := x) h18 fun w22 h22 => ?_
  refine ⟨_, h22.ld (b := k9) (c := paC x) (i := 3) (by repeat (first | exact List.Mem.head _ | refine List.Mem.tail _ ?_)) rfl, dec_t fun _ => pshown_end h22.ext, dec_f fun hs100 => ?_⟩
  rw [strB_size] at hs100
  refine ⟨_, h22.ld (b := k9) (c := paC x) (i := 1) (by repeat (first | exact List.Mem.head _ | refine List.Mem.tail _ ?_)) rfl, ?_⟩
  have hk4 : ∃ k : Nat, Int.tmod (IntKind.i64.wrap x.i) 4 = (k : Int) ∧ k < 4 := by
    refine ⟨x.i.toNat % 4, ?_, Nat.mod_lt _ (by decide)⟩
    rw [wrap64 x.i (by omega) (by omega), Int.tmod_eq_emod_of_nonneg hu8.1]
    push_cast
    rw [Int.toNat_of_nonneg hu8.1]
  obtain ⟨k, hke, hk⟩ := hk4
  rw [hke]
  obtain ⟨p, a, hp⟩ := hPI.some4 k hk
  obtain ⟨q, hq⟩ := ads_get hPI.same hp
  have hBk : B.getD k none = some p := by rw [← hPI.b1, List.getD_eq_getElem?_getD, blks_get hp]; rfl
  have hCk : C.getD k none = some q := by rw [← hPI.b2, List.getD_eq_getElem?_getD, blks_get hq]; rfl
  have cB : ∀ {Y : List A} w', T [] w w' Y → rowP 27 1 (some b1) 5 c1 (ptrsV B) ∈ Y → w'.cell? (Addr.add ⟨b1, 0, none⟩ ((k : Int).toNat * 1)) = some (.pointer (some ⟨p, 0, none⟩)) := fun w' h' hm => by
    have := T.pcell h' hm (k := k) (by omega)
    rw [hBk] at this
    rw [Int.toNat_natCast]; exact this
  have cC : ∀ {Y : List A} w', T [] w w' Y → rowP 29 1 (some b2) 5 c2 (ptrsV C) ∈ Y → w'.cell? (Addr.add ⟨b2, 0, none⟩ ((k : Int).toNat * 1)) = some (.pointer (some ⟨q, 0, none⟩)) := fun w' h' hm => by
    have := T.pcell h' hm (k := k) (by omega)
    rw [hCk] at this
    rw [Int.toNat_natCast]; exact this
  have hF : a.Few j := hPI.few p a (List.mem_of_getElem? hp)
  refine Join.intro fun J hJ => ?_
  -- behind the act
  have tail : ∀ (m1 m2 : List Od) (w24 : World), PI m1 m2 B C (j + 1) → Ow (star (dsK m1) (rsK m2)) [] w w24 [blk k9 (paC x) 32, rowP 29 1 (some b2) 5 c2 (ptrsV C), rowP 27 1 (some b1) 5 c1 (ptrsV B)] → J [.bool true] w24 := by
    intro m1 m2 w24 hQ h24
    refine hJ _ _ ⟨_, rfl, ?_⟩
    obtain ⟨p', a', hp'⟩ := hQ.some4 k hk
    obtain ⟨q', hq'⟩ := ads_get hQ.same hp'
    have hBk' : some p' = some p := by
      have : B.getD k none = some p' := by rw [← hQ.b1, List.getD_eq_getElem?_getD, blks_get hp']; rfl
      rw [hBk] at this; exact this.symm
    have hCk' : some q' = some q := by
      have : C.getD k none = some q' := by rw [← hQ.b2, List.getD_eq_getElem?_getD, blks_get hq']; rfl
      rw [hCk] at this; exact this.symm
    obtain rfl := Option.some.inj hBk'
    obtain rfl := Option.some.inj hCk'
    have hFa' : a'.Few 1000000 := (hQ.few p' a' (List.mem_of_getElem? hp')).mono (by omega)
    have hrs : ∀ {w' : World} {X : List A}, Ow (star (dsK m1) (rsK m2)) [] w w' X → ∀ q a, some (q, a) ∈ m2 → (a.read 2).1.size ≤ 1000000 := fun h q a hm => by
      obtain ⟨k0, hk0, he0⟩ := List.getElem_of_mem hm
      obtain ⟨pp, hpp⟩ := ads_get hQ.same.symm (k := k0) (p := q) (a := a) (by rw [List.getElem?_eq_getElem hk0, he0])
      obtain ⟨Z, hZ, _⟩ := Ow.drive h.fst hpp
      exact Nat.le_trans (hZ.read_size 2) (by decide)
    refine ⟨⟨b1, 0, none⟩, rfl, by omega, by omega, _, cB w24 h24.under (by repeat (first | exact List.Mem.head _ | refine List.Mem.tail _ ?_)), ?_⟩
    obtain ⟨Z, hZ, _⟩ := Ow.drive h24.fst hp'
    refine (pload_spec hZ hFa' (Nat.le_trans (hZ.read_size 2) (by decide))).mono fun e w25 ⟨he25, hx25⟩ => ⟨_, _, _, he25, ?_⟩
    refine Ow.newPg (h24.quiet hx25) fun k17 w28 h28 => ?_
    refine ⟨⟨b2, 0, none⟩, rfl, by omega, by omega, _, cC w28 h28.under (by repeat (first | exact List.Mem.head _ | refine List.Mem.tail _ ?_)), ?_⟩
    obtain ⟨Z2, hZ2, _⟩ := Ow.rdrive h28.flip.fst hq'
    refine (rpload_spec hZ2 hFa' (hrs h28 _ _ (List.mem_of_getElem? hq'))).mono fun e w29 ⟨he29, hx29⟩ => ⟨_, _, _, he29, ?_⟩
    refine Ow.newPg (h28.quiet hx29) fun k19 w32 h32 => ?_
    have hl5 := hQ.len
    have hl5' : m2.length = 5 := by rw [← ads_len hQ.same]; exact hl5
    have f1 := Ow.onFst (P := Tryz.prog) (f := 20) (args := #[.slice (some ⟨b1, 0, none⟩) 5 c1, .int .u64 (fr : Int)]) h32 (h' := dsK m1) (v := .tuple #[.string (strB (jnPgs fr m1 m1.length).1), .bool (jnPgs fr m1 m1.length).2]) fun Z hZ => by
      have := pjoin_spec (n := fr) (g := some b1) (cap := c1) (c := c1) (by omega) (hQ.few.mono (by omega)) hZ (by rw [hl5, hQ.b1]; exact List.mem_append_left _ (by repeat (first | exact List.Mem.head _ | refine List.Mem.tail _ ?_)))
      rw [hl5] at this ⊢
      exact this
    refine f1.mono fun e w33 ⟨he33, h33⟩ => ⟨_, _, he33, ?_⟩
    have f2 := Ow.onSnd (P := Tryz.prog) (f := 21) (args := #[.slice (some ⟨b2, 0, none⟩) 5 c2, .int .u64 (fr : Int)]) h33 (h' := rsK m2) (v := .tuple #[.string (strB (jnPgs fr m2 m2.length).1), .bool (jnPgs fr m2 m2.length).2]) fun Z hZ => by
      have := rpjoin_spec (n := fr) (g := some b2) (cap := c2) (c := c2) (by omega) ((FewL.ads hQ.same hQ.few).mono (by omega)) (hrs h33) hZ (by rw [hl5', hQ.b2]; exact List.mem_append_left _ (by repeat (first | exact List.Mem.head _ | refine List.Mem.tail _ ?_)))
      rw [hl5'] at this ⊢
      exact this
    refine f2.mono fun e w34 ⟨he34, h34⟩ => ⟨_, _, he34, no rfl ?_⟩
    rw [jn_ads fr hQ.same]
    refine ⟨_, _, ⟨h34.ld (b := k17) (c := pgC (loadPg a').1) (by repeat (first | exact List.Mem.head _ | refine List.Mem.tail _ ?_)) rfl, h34.ld (b := k17) (c := pgC (loadPg a').1) (i := 1) (by repeat (first | exact List.Mem.head _ | refine List.Mem.tail _ ?_)) rfl⟩, _, _, ⟨h34.ld (b := k19) (c := pgC (loadPg a').1) (by repeat (first | exact List.Mem.head _ | refine List.Mem.tail _ ?_)) rfl, h34.ld (b := k19) (c := pgC (loadPg a').1) (i := 1) (by repeat (first | exact List.Mem.head _ | refine List.Mem.tail _ ?_)) rfl⟩, _, w34, rneq_pg (loadPg a').1 (loadPg a').1 (.tmp 234) (.tmp 235) w34, no (by rw [decide_eq_true rfl]; rfl) (no (by simp) (no (by simp) (no (by simp) ⟨⟨j + 1, m1, m2, by rw [hnx], by omega, hQ, h34.dropX.dropX.dropX⟩, hms⟩)))⟩
  have same : ∀ (z : Int) (w' : World), J [.bool true] w' → J [.bool (z == z)] w' := fun z w' h => by rw [beq_self_eq_true]; exact h
  have hP1 : PI l1 l2 B C (j + 1) := ⟨hPI.same, hPI.b1, hPI.b2, hPI.len, hPI.some4, hPI.few.mono (by omega)⟩
  -- Save of a page by both
  have save2 : ∀ (pg : PgV) (w' w1 : World) (D : World → Prop), pg.ev < 2 ^ 64 → pg.bits.length ≤ 1000000 → Ow (star (dsK (l1.set k (some (p, (savePg a pg).1)))) (rsK l2)) [] w w1 [blk k9 (paC x) 32, rowP 29 1 (some b2) 5 c2 (ptrsV C), rowP 27 1 (some b1) 5 c1 (ptrsV B)] →
      (∀ w3, T [] w w3 [blk k9 (paC x) 32, rowP 29 1 (some b2) 5 c2 (ptrsV C), rowP 27 1 (some b1) 5 c1 (ptrsV B)] → D w3) →
      Calls Tryz.prog 8 #[.pointer (some ⟨q, 0, none⟩), .agg (pgC pg)] w1 fun e w2 => ∃ m : Int, e = .returned (.int .i64 m) ∧ D w2 ∧ J [.bool ((savePg a pg).2 == m)] w2 := by
    intro pg w' w1 D hpe hpb h1 hD
    refine (Ow.onR h1 hq (b := (savePg a pg).1) (v := .int .i64 (savePg a pg).2) fun Z hZ => rpsave_r hZ (hF.mono (by omega)) hpe hpb).mono fun e w2 ⟨he2, h2⟩ => ⟨_, he2, hD w2 h2.under, same _ _ (tail _ _ w2 ?_ h2)⟩
    exact hPI.set (by omega) hp hq (few_savePg hF pg)
  refine ⟨_, h22.ld (b := k9) (c := paC x) (by repeat (first | exact List.Mem.head _ | refine List.Mem.tail _ ?_)) rfl, fun h0 => ?_, fun h0 => ⟨fun h1 => ?_, fun h1 => ⟨fun h2 => ?_, fun h2 => ⟨fun h3 => ?_, fun h3 => ⟨fun h4 => ?_, fun h4 => ⟨fun h5 => ?_, fun h5 => tail l1 l2 w22 hP1 h22⟩⟩⟩⟩⟩⟩
  · have ep : (#[.int .u64 (x.ev : Int), .string (strB x.s)] : Array Value) = pgC ⟨x.ev, x.s⟩ := rfl
    refine ⟨fun w' => T [] w w' [blk k9 (paC x) 32, rowP 29 1 (some b2) 5 c2 (ptrsV C), rowP 27 1 (some b1) 5 c1 (ptrsV B)], h22.drew.under, ⟨b1, 0, none⟩, rfl, by omega, by omega, _, fun w' h' => cB w' h' (by repeat (first | exact List.Mem.head _ | refine List.Mem.tail _ ?_)), _, fun w' h' => h'.ld (b := k9) (c := paC x) (i := 2) (by repeat (first | exact List.Mem.head _ | refine List.Mem.tail _ ?_)) rfl, _, fun w' h' => h'.ld (b := k9) (c := paC x) (i := 3) (by repeat (first | exact List.Mem.head _ | refine List.Mem.tail _ ?_)) rfl, ?_⟩
    rw [ep]
    refine (Ow.onD h22.drew hp (b := (savePg a ⟨x.ev, x.s⟩).1) (v := .int .i64 (savePg a ⟨x.ev, x.s⟩).2) fun Z hZ => psave_d hZ (hF.mono (by omega)) hu64 (show x.s.length ≤ 1000000 by omega)).mono fun e w36 ⟨he36, h36⟩ => ⟨_, he36, h36.under, ⟨b2, 0, none⟩, rfl, by omega, by omega, _, fun w' h' => cC w' h' (by repeat (first | exact List.Mem.head _ | refine List.Mem.tail _ ?_)), _, fun w' h' => h'.ld (b := k9) (c := paC x) (i := 2) (by repeat (first | exact List.Mem.head _ | refine List.Mem.tail _ ?_)) rfl, _, fun w' h' => h'.ld (b := k9) (c := paC x) (i := 3) (by repeat (first | exact List.Mem.head _ | refine List.Mem.tail _ ?_)) rfl, ?_⟩
    rw [ep]
    exact save2 _ w36 w36 _ hu64 (show x.s.length ≤ 1000000 by omega) h36 fun w3 h3 => h3
  · refine ⟨fun w' => T [] w w' [blk k9 (paC x) 32, rowP 29 1 (some b2) 5 c2 (ptrsV C), rowP 27 1 (some b1) 5 c1 (ptrsV B)], h22.drew.under, _, fun w' h' => h'.ld (b := k9) (c := paC x) (i := 3) (by repeat (first | exact List.Mem.head _ | refine List.Mem.tail _ ?_)) rfl, ?_⟩
    refine (blank_spec _).mono fun e w38 ⟨he38, hx38⟩ => ⟨_, he38, h22.drew.under.quiet hx38, by rw [strB_size, zeroSec_size]; omega, _, fun x0 _ => fullL_run x.s (by omega) x0, ?_⟩
    have h38 := h22.drew.quiet hx38
    refine ⟨fun w' => T [] w w' [blk k9 (paC x) 32, rowP 29 1 (some b2) 5 c2 (ptrsV C), rowP 27 1 (some b1) 5 c1 (ptrsV B)], h38.drew.under, ⟨b1, 0, none⟩, rfl, by omega, by omega, _, fun w' h' => cB w' h' (by repeat (first | exact List.Mem.head _ | refine List.Mem.tail _ ?_)), ?_⟩
    generalize (strB x.s ++ zeroSec).extract 0 64 = s64
    refine (Ow.onD h38.drew hp (b := a.write 2 s64) (v := .int .i64 (a.put 2 s64)) fun Z hZ => write_a hZ (hF.mono (by omega)) 2 s64).mono fun e w39 ⟨he39, h39⟩ => ⟨_, he39, h39.under, ⟨b2, 0, none⟩, rfl, by omega, by omega, _, fun w' h' => cC w' h' (by repeat (first | exact List.Mem.head _ | refine List.Mem.tail _ ?_)), ?_⟩
    refine (Ow.onR h39 hq (b := a.write 2 s64) (v := .int .i64 (a.put 2 s64)) fun Z hZ => rwrite_r hZ (hF.mono (by omega)) 2 s64).mono fun e w40 ⟨he40, h40⟩ => ⟨_, he40, h40.under, same _ _ (tail _ _ w40 (hPI.set (by omega) hp hq (hF.write 2 s64)) h40)⟩
  · refine ⟨fun w' => T [] w w' [blk k9 (paC x) 32, rowP 29 1 (some b2) 5 c2 (ptrsV C), rowP 27 1 (some b1) 5 c1 (ptrsV B)], h22.drew.under, ⟨b1, 0, none⟩, rfl, by omega, by omega, _, fun w' h' => cB w' h' (by repeat (first | exact List.Mem.head _ | refine List.Mem.tail _ ?_)), ?_⟩
    refine (Ow.onD h22.drew hp (b := a.spoil 2) (v := .int .i64 (a.may 2)) fun Z hZ => spoil_a hZ 2).mono fun e w41 ⟨he41, h41⟩ => ⟨_, he41, h41.under, ⟨b2, 0, none⟩, rfl, by omega, by omega, _, fun w' h' => cC w' h' (by repeat (first | exact List.Mem.head _ | refine List.Mem.tail _ ?_)), ?_⟩
    refine (Ow.onR h41 hq (b := a.spoil 2) (v := .int .i64 (a.may 2)) fun Z hZ => rspoil_r hZ 2).mono fun e w42 ⟨he42, h42⟩ => ⟨_, he42, h42.under, same _ _ (tail _ _ w42 (hPI.set (by omega) hp hq ((hF.spoil 2).mono (by omega))) h42)⟩
  · refine ⟨⟨b1, 0, none⟩, rfl, by omega, by omega, _, cB w22 h22.under (by repeat (first | exact List.Mem.head _ | refine List.Mem.tail _ ?_)), ?_⟩
    refine (Ow.onD h22 hp (b := a.die) (v := .tuple #[]) fun Z hZ => die_a hZ).mono fun e w43 ⟨he43, h43⟩ => ⟨he43, ⟨b2, 0, none⟩, rfl, by omega, by omega, _, cC w43 h43.under (by repeat (first | exact List.Mem.head _ | refine List.Mem.tail _ ?_)), ⟨q, 0, none⟩, rfl, ?_⟩
    obtain ⟨Z, hZ, h43', hback⟩ := Ow.lend h43.flip
    obtain ⟨Z2, hZ2, hback2⟩ := Ow.rdrive h43' hq
    refine rgone hZ2 fun w44 h44 => tail _ _ w44 (hPI.set (by omega) hp hq (b := a.die) (hF.mono (by omega))) (hback (hback2 h44)).flip
  · have hl5 := hPI.len
    have hl5' : l2.length = 5 := by rw [← ads_len hPI.same]; exact hl5
    have ep : (#[.int .u64 (x.ev : Int), .string (strB x.s)] : Array Value) = pgC ⟨x.ev, x.s⟩ := rfl
    refine ⟨_, h22.ld (b := k9) (c := paC x) (i := 2) (by repeat (first | exact List.Mem.head _ | refine List.Mem.tail _ ?_)) rfl, _, h22.ld (b := k9) (c := paC x) (i := 3) (by repeat (first | exact List.Mem.head _ | refine List.Mem.tail _ ?_)) rfl, ?_⟩
    rw [ep]
    have f1 := Ow.onFst (P := Tryz.prog) (f := 15) (args := #[.slice (some ⟨b1, 0, none⟩) 5 c1, .agg (pgC ⟨x.ev, x.s⟩)]) h22 (h' := dsK (allPg ⟨x.ev, x.s⟩ l1).1) (v := .tuple #[.int .i64 (allPg ⟨x.ev, x.s⟩ l1).2.1, .int .i64 (allPg ⟨x.ev, x.s⟩ l1).2.2]) fun Z hZ => by
      have := pall_spec (p := ⟨x.ev, x.s⟩) (g := some b1) (cap := c1) (c := c1) (by omega) hu64 (show x.s.length ≤ 1000000 by omega) (hPI.few.mono (by omega)) hZ (by rw [hl5, hPI.b1]; exact List.mem_append_left _ (by repeat (first | exact List.Mem.head _ | refine List.Mem.tail _ ?_)))
      rw [hl5] at this
      exact this
    refine f1.mono fun e w45 ⟨he45, h45⟩ => ⟨_, _, he45, _, h45.ld (b := k9) (c := paC x) (i := 2) (by repeat (first | exact List.Mem.head _ | refine List.Mem.tail _ ?_)) rfl, _, h45.ld (b := k9) (c := paC x) (i := 3) (by repeat (first | exact List.Mem.head _ | refine List.Mem.tail _ ?_)) rfl, ?_⟩
    rw [ep]
    have f2 := Ow.onSnd (P := Tryz.prog) (f := 16) (args := #[.slice (some ⟨b2, 0, none⟩) 5 c2, .agg (pgC ⟨x.ev, x.s⟩)]) h45 (h' := rsK (allPg ⟨x.ev, x.s⟩ l2).1) (v := .tuple #[.int .i64 (allPg ⟨x.ev, x.s⟩ l2).2.1, .int .i64 (allPg ⟨x.ev, x.s⟩ l2).2.2]) fun Z hZ => by
      have := rpall_spec (p := ⟨x.ev, x.s⟩) (g := some b2) (cap := c2) (c := c2) (by omega) hu64 (show x.s.length ≤ 1000000 by omega) ((FewL.ads hPI.same hPI.few).mono (by omega)) hZ (by rw [hl5', hPI.b2]; exact List.mem_append_left _ (by repeat (first | exact List.Mem.head _ | refine List.Mem.tail _ ?_)))
      rw [hl5'] at this
      exact this
    refine f2.mono fun e w46 ⟨he46, h46⟩ => ⟨_, _, he46, yes ?_ ?_⟩
    · rw [(all_ads ⟨x.ev, x.s⟩ hPI.same).2]; simp
    · rw [(all_ads ⟨x.ev, x.s⟩ hPI.same).2]
      exact same _ _ (tail _ _ w46 (hPI.all ⟨x.ev, x.s⟩) h46)
  · have ep : (#[.int .u64 (x.ev : Int), .string (strB (bitsF x.s))] : Array Value) = pgC ⟨x.ev, bitsF x.s⟩ := rfl
    have hb8 := bitsF_len x.s
    refine ⟨fun w' => T [] w w' [blk k9 (paC x) 32, rowP 29 1 (some b2) 5 c2 (ptrsV C), rowP 27 1 (some b1) 5 c1 (ptrsV B)], h22.drew.under, ⟨b1, 0, none⟩, rfl, by omega, by omega, _, fun w' h' => cB w' h' (by repeat (first | exact List.Mem.head _ | refine List.Mem.tail _ ?_)), _, fun w' h' => h'.ld (b := k9) (c := paC x) (i := 2) (by repeat (first | exact List.Mem.head _ | refine List.Mem.tail _ ?_)) rfl, _, fun w' h' => h'.ld (b := k9) (c := paC x) (i := 3) (by repeat (first | exact List.Mem.head _ | refine List.Mem.tail _ ?_)) rfl, ?_⟩
    refine (bits_spec x.s (by omega) _).mono fun e w47 ⟨he47, hx47⟩ => ⟨_, he47, h22.drew.under.quiet hx47, ?_⟩
    have h47 := h22.drew.quiet hx47
    rw [ep]
    refine (Ow.onD h47 hp (b := (savePg a ⟨x.ev, bitsF x.s⟩).1) (v := .int .i64 (savePg a ⟨x.ev, bitsF x.s⟩).2) fun Z hZ => psave_d hZ (hF.mono (by omega)) hu64 (show (bitsF x.s).length ≤ 1000000 by omega)).mono fun e w48 ⟨he48, h48⟩ => ⟨_, he48, h48.under, ⟨b2, 0, none⟩, rfl, by omega, by omega, _, fun w' h' => cC w' h' (by repeat (first | exact List.Mem.head _ | refine List.Mem.tail _ ?_)), _, fun w' h' => h'.ld (b := k9) (c := paC x) (i := 2) (by repeat (first | exact List.Mem.head _ | refine List.Mem.tail _ ?_)) rfl, _, fun w' h' => h'.ld (b := k9) (c := paC x) (i := 3) (by repeat (first | exact List.Mem.head _ | refine List.Mem.tail _ ?_)) rfl, ?_⟩
    refine (bits_spec x.s (by omega) _).mono fun e w49 ⟨he49, hx49⟩ => ⟨_, he49, h48.under.quiet hx49, ?_⟩
    rw [ep]
    exact save2 _ w49 w49 _ hu64 (show (bitsF x.s).length ≤ 1000000 by omega) (h48.quiet hx49) fun w3 h3 => h3
end Go.Proofs.YtmipjkalfodcpaaGreatDoor
end
section
/-! A law's row: slices of structs. -/
namespace Go.Sh
open Go.ChangeShapes Go.WideShapes Go.ChangeAt Go.RowKit
set_option linter.unusedVariables false
mutual
/-- the one-cell parts of a type: which type, and where -/
def leaves (P : Program) : Nat → TypeId → Option (List (TypeId × Nat × Nat))
  | 0, _ => none
  | d + 1, t => match P.underlying t with
    | some (.struct fs) => leavesF P d (P.cellsOf t) fs.toList
    | some (.array n e) => if n ≤ 12 && n * P.cellsOf e == P.cellsOf t then (leaves P d e).map fun l => (List.range n).flatMap fun i => l.map fun x => (x.1, i * P.cellsOf e + x.2.1, x.2.2) else none
    | some _ => some [(t, 0, P.cellsOf t)]
    | none => none
def leavesF (P : Program) : Nat → Nat → List Field → Option (List (TypeId × Nat × Nat))
  | _, _, [] => some []
  | 0, _, _ => none
  | d + 1, C, f :: fs => if f.offset + P.cellsOf f.type ≤ C then match leaves P d f.type, leavesF P d C fs with
    | some a, some b => some (a.map (fun x => (x.1, f.offset + x.2.1, x.2.2)) ++ b)
    | _, _ => none else none
end
section
variable {P : Program} {H : Type} {enc : TypeId × Value → H} {w : World} {sp : Nat → Bool}
def LeafAt (enc : TypeId × Value → H) (P : Program) (w : World) (sp : Nat → Bool) (cs : List Value) (x : TypeId × Nat × Nat) : Prop := x.2.1 + x.2.2 ≤ cs.length ∧ ∃ n y, DataW.trod enc P w 0 sp true n x.1 ((cs.drop x.2.1).take x.2.2) = some y
theorem LeafAt.sub {cs : List Value} {o n : Nat} {x : TypeId × Nat × Nat} (hn : o + n ≤ cs.length) (h : LeafAt enc P w sp ((cs.drop o).take n) x) : LeafAt enc P w sp cs (x.1, o + x.2.1, x.2.2) := by
  obtain ⟨h1, m, y, h2⟩ := h
  rw [List.length_take, List.length_drop] at h1
  refine ⟨?_, m, y, ?_⟩
  · show o + x.2.1 + x.2.2 ≤ _; omega
  rw [List.drop_take, List.drop_drop, List.take_take] at h2
  show DataW.trod enc P w 0 sp true m x.1 ((cs.drop (o + x.2.1)).take x.2.2) = some y
  rwa [show min x.2.2 (n - x.2.1) = x.2.2 by omega] at h2
mutual
theorem leaves_trod : ∀ (d : Nat) (t : TypeId) (l : List (TypeId × Nat × Nat)) (cs : List Value) (n : Nat) (y : DataW H × List MemPlace), leaves P d t = some l → cs.length = P.cellsOf t → DataW.trod enc P w 0 sp true n t cs = some y → ∀ x ∈ l, LeafAt enc P w sp cs x
  | 0, _, _, _, _, _, h, _, _ => by cases h
  | d + 1, t, l, cs, n, y, h, hl, hd => by
    unfold leaves at h
    split at h
    · rename_i fs hu
      obtain ⟨xs, m, _, _, _, hlen, hf⟩ := DataW.trod_struct hu hd
      exact leavesF_trod d (P.cellsOf t) fs.toList l cs m h hl fun f hm => by
        obtain ⟨i, hi⟩ := List.mem_iff_getElem?.1 hm
        have h1 := hf i f (by simpa using hi)
        have : i < xs.length := by rw [hlen]; have := (List.getElem?_eq_some_iff.1 hi).1; simpa using this
        rw [List.getElem?_eq_getElem this] at h1
        exact ⟨_, h1⟩
    · rename_i k e hu
      split at h
      · rename_i hc
        simp only [Bool.and_eq_true, decide_eq_true_eq, beq_iff_eq] at hc
        simp only [Option.map_eq_some_iff] at h
        obtain ⟨le, he, rfl⟩ := h
        obtain ⟨xs, m, _, _, _, hlen, hf⟩ := DataW.trod_array hu hd
        intro x hx
        simp only [List.mem_flatMap, List.mem_range, List.mem_map] at hx
        obtain ⟨i, hi, x0, hx0, rfl⟩ := hx
        have h1 := hf i hi
        rw [List.getElem?_eq_getElem (by omega)] at h1
        have hb : i * P.cellsOf e + P.cellsOf e ≤ cs.length := by
          rw [hl, ← hc.2]
          have : (i + 1) * P.cellsOf e ≤ k * P.cellsOf e := Nat.mul_le_mul_right _ hi
          rw [Nat.add_mul, Nat.one_mul] at this
          exact this
        exact LeafAt.sub hb (leaves_trod d e le _ m _ he (by rw [List.length_take, List.length_drop]; omega) h1 x0 hx0)
      · cases h
    · rename_i hu1 hu2 hu3
      cases h
      intro x hx
      obtain rfl := List.mem_singleton.1 hx
      refine ⟨by simp [hl], n, y, ?_⟩
      rw [List.drop_zero, ← hl, List.take_length]
      exact hd
    · cases h
theorem leavesF_trod : ∀ (d C : Nat) (fs : List Field) (l : List (TypeId × Nat × Nat)) (cs : List Value) (n : Nat), leavesF P d C fs = some l → cs.length = C → (∀ f ∈ fs, ∃ y, DataW.trod enc P w 0 sp true n f.type ((cs.drop f.offset).take (P.cellsOf f.type)) = some y) → ∀ x ∈ l, LeafAt enc P w sp cs x
  | _, _, [], l, _, _, h, _, _ => by
    cases l with
    | nil => intro x hx; cases hx
    | cons a l => unfold leavesF at h; cases h
  | 0, _, _ :: _, _, _, _, h, _, _ => by cases h
  | d + 1, C, f :: fs, l, cs, n, h, hl, hf => by
    unfold leavesF at h
    split at h
    · rename_i hc
      split at h
      · rename_i a b ha hb
        cases h
        intro x hx
        rcases List.mem_append.1 hx with hx | hx
        · obtain ⟨x0, hx0, rfl⟩ := List.mem_map.1 hx
          obtain ⟨y, hy⟩ := hf f List.mem_cons_self
          exact LeafAt.sub (by omega) (leaves_trod d f.type a _ n y ha (by rw [List.length_take, List.length_drop]; omega) hy x0 hx0)
        · exact leavesF_trod d C fs b cs n hb hl (fun g hg => hf g (List.mem_cons_of_mem _ hg)) x hx
      · cases h
    · cases h
end
theorem leaf_one {cs : List Value} {t : TypeId} {i : Nat} (h : LeafAt enc P w sp cs (t, i, 1)) : ∃ v n y, cs[i]? = some v ∧ DataW.trod enc P w 0 sp true n t [v] = some y := by
  obtain ⟨h1, n, y, h2⟩ := h
  have hi : i < cs.length := by simp only at h1; omega
  refine ⟨cs[i], n, y, List.getElem?_eq_getElem hi, ?_⟩
  have : (cs.drop i).take 1 = [cs[i]] := by
    rw [List.drop_eq_getElem_cons hi]; rfl
  rwa [this] at h2
theorem leaf_int {cs : List Value} {t : TypeId} {i : Nat} {k : IntKind} (ht : P.underlying t = some (.int k)) (h : LeafAt enc P w sp cs (t, i, 1)) : ∃ n : Int, cs[i]? = some (.int k n) ∧ (Lit.int k n).wf = true := by
  obtain ⟨v, n, y, h1, h2⟩ := leaf_one h
  obtain ⟨m, h3, _, h4⟩ := DataW.trod_int ht h2
  obtain rfl : v = .int k m := by simpa using h3
  exact ⟨m, h1, h4⟩
theorem leaf_bool {cs : List Value} {t : TypeId} {i : Nat} (ht : P.underlying t = some .bool) (h : LeafAt enc P w sp cs (t, i, 1)) : ∃ b : Bool, cs[i]? = some (.bool b) := by
  obtain ⟨v, n, y, h1, h2⟩ := leaf_one h
  obtain ⟨m, h3, _⟩ := DataW.trod_bool ht h2
  obtain rfl : v = .bool m := by simpa using h3
  exact ⟨m, h1⟩
theorem leaf_str {cs : List Value} {t : TypeId} {i : Nat} (ht : P.underlying t = some .string) (h : LeafAt enc P w sp cs (t, i, 1)) : ∃ s : ByteArray, cs[i]? = some (.string s) ∧ s.size ≤ maxLen := by
  obtain ⟨v, n, y, h1, h2⟩ := leaf_one h
  obtain ⟨m, h3, _, h4⟩ := DataW.trod_string ht h2
  obtain rfl : v = .string m := by simpa using h3
  exact ⟨m, h1, h4⟩
/-- bytes that a slice's value shows -/
theorem trod_u8s {t e : TypeId} {v : Value} {n : Nat} {y : DataW H × List MemPlace} (ht : P.underlying t = some (.slice e)) (he : P.underlying e = some (.int .u8)) (hc : P.cellsOf e = 1) (hf : DataW.trod enc P w 0 (fun _ => true) true n t [v] = some y) :
    ∃ (p : Option Addr) (c : Nat) (l : List UInt8), v = .slice p l.length c ∧ (l ≠ [] → ∃ a, p = some a) ∧ (∀ a, p = some a → ∀ j (s : UInt8), l[j]? = some s → w.cell? (a.add j) = some (.int .u8 s.toNat)) := by
  rcases open_ints ht he hc hf with ⟨h0, _⟩ | ⟨a, len, cap, ss, h0, h1, h2, h3, h4, h5, h6, h7⟩
  · obtain rfl : v = .slice none 0 0 := by simpa using h0
    exact ⟨none, 0, [], rfl, fun h => absurd rfl h, (fun a ha => by cases ha)⟩
  · obtain rfl : v = .slice (some a) len cap := by simpa using h0
    simp only [if_true] at h4
    refine ⟨some a, cap, (ss.take len).map fun n => UInt8.ofNat n.toNat, by rw [List.length_map, List.length_take]; congr 1; omega, fun _ => ⟨a, rfl⟩, fun a' ha' j s hs => ?_⟩
    cases ha'
    rw [List.getElem?_map, List.getElem?_take] at hs
    split at hs
    · cases hz : ss[j]? with
      | none => rw [hz] at hs; cases hs
      | some z =>
        rw [hz] at hs
        simp only [Option.map_some, Option.some.injEq] at hs
        have hj := (List.getElem?_eq_some_iff.1 hz).1
        have hw := u8_of (h7 z (List.mem_of_getElem? hz))
        rw [h6 j hj, List.getD_eq_getElem?_getD, hz]
        have : ((UInt8.ofNat z.toNat).toNat : Int) = z := by simp; omega
        rw [← hs, this]; rfl
    · cases hs
theorem leaf_u8s {cs : List Value} {t e : TypeId} {i : Nat} (ht : P.underlying t = some (.slice e)) (he : P.underlying e = some (.int .u8)) (hc : P.cellsOf e = 1) (h : LeafAt enc P w (fun _ => true) cs (t, i, 1)) :
    ∃ (p : Option Addr) (c : Nat) (l : List UInt8), cs[i]? = some (.slice p l.length c) ∧ (l ≠ [] → ∃ a, p = some a) ∧ (∀ a, p = some a → ∀ j (s : UInt8), l[j]? = some s → w.cell? (a.add j) = some (.int .u8 s.toNat)) := by
  obtain ⟨v, n, y, h1, h2⟩ := leaf_one h
  obtain ⟨p, c, l, rfl, h3⟩ := trod_u8s ht he hc h2
  exact ⟨p, c, l, h1, h3⟩
theorem cells_get {w : World} {a : Addr} {n : Nat} {cs : List Value} (h : w.cells? 0 a n = some cs) : cs.length = n ∧ ∀ k v, cs[k]? = some v → w.cell? (a.add k) = some v := by
  unfold World.cells? at h
  split at h
  · have hl : cs.length = n := by simpa using mapM_some_length h
    refine ⟨hl, fun k v hv => ?_⟩
    have hk : k < n := by have := (List.getElem?_eq_some_iff.1 hv).1; omega
    have h1 := mapM_some_get h k
    rw [hv] at h1
    simpa [hk] using h1
  · cases h
/-- a slice of structs: the cells of each one, and its parts -/
theorem open_rows {t e : TypeId} {v : Value} {d : DataW H} {ps : List MemPlace} {r : Reach} {b0 : Nat} {l : List (TypeId × Nat × Nat)} {dep C : Nat} (ht : P.underlying t = some (.slice e)) (hl : leaves P dep e = some l) (hC : P.cellsOf e = C) (hval : Value.okWide P w r b0 t v) (hd : DataW.Trod enc P w 0 (fun _ => true) true t v d ps) :
    ∃ (p : Option Addr) (len c : Nat), v = .slice p len c ∧ (len ≠ 0 → ∃ a, p = some a) ∧ ∀ a, p = some a → ∀ j, j < len → ∃ cs : List Value, cs.length = C ∧ (∀ k u, cs[k]? = some u → w.cell? ((a.add (j * C)).add k) = some u) ∧ ∀ x ∈ l, LeafAt enc P w (fun _ => true) cs x := by
  subst hC
  obtain ⟨a0, len, cap, rfl⟩ := okWide_slice ht hval
  obtain ⟨fuel, hf⟩ := hd
  rcases DataW.trod_slice ht hf with ⟨h0, _⟩ | ⟨a, len', cap', elems, rest, n, _, h0, _, hb, hle, hm, hlen, hel, _⟩
  · have : a0 = none ∧ len = 0 ∧ cap = 0 := by simpa [Value.cells] using h0
    obtain ⟨rfl, rfl, rfl⟩ := this
    exact ⟨none, 0, 0, rfl, fun h => absurd rfl h, (fun a ha => by cases ha)⟩
  · have : a0 = some a ∧ len = len' ∧ cap = cap' := by simpa [Value.cells] using h0
    obtain ⟨rfl, rfl, rfl⟩ := this
    refine ⟨some a, len, cap, rfl, fun _ => ⟨a, rfl⟩, fun a' ha' j hj => ?_⟩
    cases ha'
    have h1 := hel j hj
    rw [List.getElem?_eq_getElem (by omega)] at h1
    simp only [Option.bind_eq_some_iff] at h1
    obtain ⟨cs, hcs, ht2⟩ := h1
    obtain ⟨h2, h3⟩ := cells_get hcs
    exact ⟨cs, h2, h3, leaves_trod dep e l cs n _ hl h2 ht2⟩
theorem list_choice {α : Type} {Q : Nat → α → Prop} : ∀ (n : Nat), (∀ j, j < n → ∃ x, Q j x) → ∃ l : List α, l.length = n ∧ ∀ j x, l[j]? = some x → Q j x
  | 0, _ => ⟨[], rfl, fun j x h => by simp at h⟩
  | n + 1, h => by
    obtain ⟨l, hl, hq⟩ := list_choice n fun j hj => h j (by omega)
    obtain ⟨x, hx⟩ := h n (by omega)
    refine ⟨l ++ [x], by simp [hl], fun j y hy => ?_⟩
    rcases Nat.lt_or_ge j l.length with hj | hj
    · rw [List.getElem?_append_left hj] at hy; exact hq j y hy
    · rw [List.getElem?_append_right hj] at hy
      have : j = n := by have := (List.getElem?_eq_some_iff.1 hy).1; simp at this; omega
      subst this
      rw [hl, Nat.sub_self] at hy
      obtain rfl : x = y := by simpa using hy
      exact hx
end
end Go.Sh
end
section
/-! A law's row: slices of strings and of numbers, with their room. -/
namespace Go.Sh
open Go.ChangeShapes Go.WideShapes Go.ChangeAt Go.RowKit
set_option linter.unusedVariables false
section
variable {H : Type} {enc : TypeId × Value → H} {P : Program} {w : World} {r : Reach} {b0 : Nat} {t e : TypeId} {v : Value} {d : DataW H} {ps : List MemPlace}
theorem open_strs5 (ht : P.underlying t = some (.slice e)) (he : P.underlying e = some .string) (hc : P.cellsOf e = 1) (hval : Value.okWide P w r b0 t v) (hd : DataW.Trod enc P w 0 (fun _ => true) true t v d ps) :
    ∃ (p : Option Addr) (c : Nat) (l : List ByteArray), v = .slice p l.length c ∧ (l ≠ [] → ∃ a, p = some a) ∧ (∀ a, p = some a → ∀ j s, l[j]? = some s → w.cell? (a.add j) = some (.string s)) ∧ l.length ≤ c ∧ ∀ s ∈ l, s.size ≤ maxLen := by
  obtain ⟨a0, len, cap, rfl⟩ := okWide_slice ht hval
  obtain ⟨fuel, hf⟩ := hd
  rcases open_strings ht he hc hf with ⟨h0, -⟩ | ⟨a, len', cap', ss, h0, h1, h2, h3, h4, h5, h6, h7⟩
  · have : a0 = none ∧ len = 0 ∧ cap = 0 := by simpa [Value.cells] using h0
    obtain ⟨rfl, rfl, rfl⟩ := this
    exact ⟨none, 0, [], rfl, fun h => absurd rfl h, (fun a ha => by cases ha), by simp, fun s hs => by cases hs⟩
  · have : a0 = some a ∧ len = len' ∧ cap = cap' := by simpa [Value.cells] using h0
    obtain ⟨rfl, rfl, rfl⟩ := this
    simp only [if_true] at h4
    refine ⟨some a, cap, ss.take len, by rw [List.length_take]; congr 1; omega, fun _ => ⟨a, rfl⟩, fun a' ha' j s hs => ?_, by rw [List.length_take]; omega, fun s hs => h7 s (List.mem_of_mem_take hs)⟩
    cases ha'
    rw [List.getElem?_take] at hs
    split at hs
    · have hj := (List.getElem?_eq_some_iff.1 hs).1
      rw [h6 j hj, List.getD_eq_getElem?_getD, hs]; rfl
    · cases hs
theorem open_i64s (ht : P.underlying t = some (.slice e)) (he : P.underlying e = some (.int .i64)) (hc : P.cellsOf e = 1) (hval : Value.okWide P w r b0 t v) (hd : DataW.Trod enc P w 0 (fun _ => true) true t v d ps) :
    ∃ (p : Option Addr) (c : Nat) (l : List Int), v = .slice p l.length c ∧ (l ≠ [] → ∃ a, p = some a) ∧ (∀ a, p = some a → ∀ j x, l[j]? = some x → w.cell? (a.add j) = some (.int .i64 x)) ∧ l.length ≤ c ∧ ∀ x ∈ l, (Lit.int .i64 x).wf = true := by
  obtain ⟨a0, len, cap, rfl⟩ := okWide_slice ht hval
  obtain ⟨fuel, hf⟩ := hd
  rcases open_ints ht he hc hf with ⟨h0, -⟩ | ⟨a, len', cap', ss, h0, h1, h2, h3, h4, h5, h6, h7⟩
  · have : a0 = none ∧ len = 0 ∧ cap = 0 := by simpa [Value.cells] using h0
    obtain ⟨rfl, rfl, rfl⟩ := this
    exact ⟨none, 0, [], rfl, fun h => absurd rfl h, (fun a ha => by cases ha), by simp, fun x hx => by cases hx⟩
  · have : a0 = some a ∧ len = len' ∧ cap = cap' := by simpa [Value.cells] using h0
    obtain ⟨rfl, rfl, rfl⟩ := this
    simp only [if_true] at h4
    refine ⟨some a, cap, ss.take len, by rw [List.length_take]; congr 1; omega, fun _ => ⟨a, rfl⟩, fun a' ha' j s hs => ?_, by rw [List.length_take]; omega, fun x hx => h7 x (List.mem_of_mem_take hx)⟩
    cases ha'
    rw [List.getElem?_take] at hs
    split at hs
    · have hj := (List.getElem?_eq_some_iff.1 hs).1
      rw [h6 j hj, List.getD_eq_getElem?_getD, hs]; rfl
    · cases hs
end
end Go.Sh
end
