import Derived.Test.YtmipjkalfodcpaaDoorM4
import Derived.Test.YtmipjkalfodcpaaDoorM8
import Derived.Test.YtmipjkalfodcpaaDoorM9
import Derived.Test.YtmipjkalfodcpaaDoorM10
import Derived.Test.YtmipjkalfodcpaaDoorM11
section
/-! The reference's Check and May: the same answers. -/
namespace Go.Proofs.YtmipjkalfodcpaaDoor
open Go.Sh Go.RowKit
set_option linter.unusedVariables false
set_option maxRecDepth 20000
set_option maxHeartbeats 1000000
end Go.Proofs.YtmipjkalfodcpaaDoor
end
section
/-! The reference's crc: the same sums. -/
namespace Go.Proofs.YtmipjkalfodcpaaDoor
open Go.Sh Go.RowKit
set_option linter.unusedVariables false
set_option maxRecDepth 20000
set_option maxHeartbeats 1000000
theorem max_xor32 (x : B32) : bits2 .xor .u32 IntKind.u32.max (x.toNat : Int) = ((~~~ x).toNat : Int) := by
  have : IntKind.u32.max = (((-1#32 : B32)).toNat : Int) := by decide
  rw [this, xor32]
  congr 2
theorem bit_one (x : B32) : (bits2 .and .u32 (x.toNat : Int) 1 == 1) = x.getLsbD 0 := by
  have h1 : bits2 .and .u32 (x.toNat : Int) 1 = ((x &&& 1#32).toNat : Int) := and32 x 1#32
  rw [h1, BitVec.toNat_and]
  have : (1#32).toNat = 1 := rfl
  rw [this, Nat.and_one_is_mod]
  have h2 : x.getLsbD 0 = decide (x.toNat % 2 = 1) := by
    simp [BitVec.getLsbD, Nat.testBit]
    rfl
  rw [h2]
  rcases Nat.mod_two_eq_zero_or_one x.toNat with h | h <;> simp [h]
theorem it1_succ (j : Nat) (x : B32) : it1 (j + 1) x = step1 (it1 j x) := rfl
theorem it1_8 (x : B32) : it1 8 x = step4 (step4 x) := rfl
theorem rmore_spec (n : B32) (s : ByteArray) (hs : s.size ≤ 1000000000) (w : World) : Ret Tryd.prog 60 #[u32v n, .string s] w (u32v (crcMore n s.data.toList)) := by
  refine ret_of (revetmentref02_More_calls ?_)
  unfold revetmentref02_More
  rw [max_xor32]
  have hl : s.data.toList.length = s.size := Array.length_toList
  refine ⟨fun vs w' => ∃ i : Nat, vs = [u32v ((s.data.toList.take i).foldl crcB (~~~ n)), .int .i64 (i : Int)] ∧ i ≤ s.size ∧ Ext w w', fun vs _ => match vs with | [_, .int _ i] => (s.size - i).toNat | _ => 0, ⟨0, rfl, by omega, .refl w⟩, ?_⟩
  rintro vs w1 ⟨i, rfl, hi, hx⟩
  refine ⟨_, _, rfl, dec_t fun hlt => ?_, dec_f fun hge => ?_⟩
  · have hlt : i < s.size := by omega
    have := index_str (P := Tryd.prog) (t := 9) (k := .i64) (n := i) (s := s) (w := w1) (by kernel_rfl) (by omega) (by omega)
    rw [Int.toNat_natCast] at this
    refine ⟨_, w1, this, ?_⟩
    generalize hb : s.data.toList.getD i 0 = b
    generalize hx0 : (s.data.toList.take i).foldl crcB (~~~ n) = x
    have hbb := b.toNat_lt
    have ex : bits2 .xor .u32 (x.toNat : Int) (IntKind.u32.wrap ((b.toNat : Nat) : Int)) = ((x ^^^ byte32 b).toNat : Int) := by
      have : IntKind.u32.wrap ((b.toNat : Nat) : Int) = ((byte32 b).toNat : Int) := by
        rw [wrap32 _ (by omega) (by omega)]
        unfold byte32
        rw [BitVec.toNat_ofNat]
        omega
      rw [this, xor32]
    rw [ex]
    refine ⟨fun vs w' => w' = w1 ∧ ∃ j : Nat, vs = [u32v (it1 j (x ^^^ byte32 b)), .int .i64 (j : Int)] ∧ j ≤ 8, fun vs _ => match vs with | [_, .int _ j] => (8 - j).toNat | _ => 0, ⟨rfl, 0, rfl, by omega⟩, ?_⟩
    rintro vs w2 ⟨rfl, j, rfl, hj⟩
    have hms : j < 8 → ((8 : Int) - IntKind.i64.wrap ((j : Int) + 1)).toNat < ((8 : Int) - (j : Int)).toNat := fun h => by rw [wrap64 _ (by omega) (by omega)]; omega
    have hnx : j < 8 → IntKind.i64.wrap ((j : Int) + 1) = ((j + 1 : Nat) : Int) := fun h => by rw [wrap64 _ (by omega) (by omega)]; omega
    refine ⟨_, _, rfl, dec_t fun hjl => ?_, dec_f fun hjg => ?_⟩
    · have hjl : j < 8 := by omega
      rw [bit_one, shr32 _ 1]
      refine ⟨fun hbit => ⟨⟨rfl, j + 1, ?_, by omega⟩, hms hjl⟩, fun hbit => ⟨⟨rfl, j + 1, ?_, by omega⟩, hms hjl⟩⟩
      · have hp : (2197175160 : Int) = (poly.toNat : Int) := rfl
        rw [hnx hjl, it1_succ, step1_bit, hbit, hp, xor32]
        rfl
      · rw [hnx hjl, it1_succ, step1_bit, hbit]
        simp
    · have hj8 : j = 8 := by omega
      subst hj8
      refine ⟨⟨i + 1, ?_, by omega, hx⟩, ?_⟩
      · have : (s.data.toList.take (i + 1)).foldl crcB (~~~ n) = crcB x b := by
          rw [List.take_add_one, List.getElem?_eq_getElem (by omega), ← hx0, ← hb, List.getD_eq_getElem?_getD, List.getElem?_eq_getElem (by omega)]
          simp
        rw [this, it1_8, wrap64 _ (by omega) (by omega)]
        rfl
      · show ((s.size : Int) - IntKind.i64.wrap ((i : Int) + 1)).toNat < ((s.size : Int) - (i : Int)).toNat
        rw [wrap64 _ (by omega) (by omega)]; omega
  · have hie : i = s.size := by omega
    subst hie
    rw [List.take_of_length_le (by omega), max_xor32]
    exact ⟨rfl, hx⟩
theorem rsum_spec (s : ByteArray) (hs : s.size ≤ 1000000000) (w : World) : Ret Tryd.prog 42 #[.string s] w (u32v (crcSum s.data.toList)) := by
  refine ret_of (revetmentref02_Sum_calls ?_)
  unfold revetmentref02_Sum
  exact (rmore_spec 0#32 s hs w).mono fun e w1 ⟨he, hx⟩ => ⟨_, he, rfl, hx⟩
end Go.Proofs.YtmipjkalfodcpaaDoor
end
section
/-! The reference's four, Open. -/
namespace Go.Proofs.YtmipjkalfodcpaaDoor
open Go.Sh Go.RowKit
set_option linter.unusedVariables false
set_option maxRecDepth 20000
set_option maxHeartbeats 1000000
theorem rfour_spec (n : B32) (w : World) : Ret Tryd.prog 41 #[u32v n] w (.string (strB (four n))) := by
  refine ret_of (revetmentref02_four_calls ?_)
  unfold revetmentref02_four
  refine Alloc.t (T.nil w) fun k w1 h1 => ?_
  have h2 : T [] w w1 [rowP 5 1 (some k) 4 4 (bvals (four n))] := by
    refine blk_row h1 ?_ rfl (by decide)
    have hlt := n.isLt
    have hw : ∀ d : Nat, 0 < d → IntKind.u8.wrap ((n.toNat : Int) / (d : Int)) = ((UInt8.ofNat (n.toNat / d)).toNat : Int) := by
      intro d hd
      rw [wrap8]
      simp
    have h0 : IntKind.u8.wrap (n.toNat : Int) = ((UInt8.ofNat n.toNat).toNat : Int) := by rw [wrap8]; simp
    have hf : ∀ k : Nat, Int.fdiv (n.toNat : Int) (2 ^ k) = (n.toNat : Int) / ((2 ^ k : Nat) : Int) := by
      intro k
      rw [Int.fdiv_eq_ediv_of_nonneg _ (Int.le_of_lt (Int.pow_pos (by decide)))]
      push_cast
      rfl
    rw [hf 8, hf 16, hf 24, hw _ (by decide), hw _ (by decide), hw _ (by decide), h0]
    rfl
  exact ⟨_, w1, row_string h2 List.mem_cons_self, rfl, h2.chg.ext⟩
theorem ropen_spec (s : ByteArray) (hs : s.size ≤ 1000000000) (w : World) : Ret Tryd.prog 26 #[.string s] w (.tuple #[.string (strB (openB s.data.toList).1), .bool (openB s.data.toList).2]) := by
  refine ret_of (revetmentref02_Open_calls ?_)
  unfold revetmentref02_Open
  have hl : s.data.toList.length = s.size := Array.length_toList
  refine ⟨dec_t fun hlt => ⟨?_, Ext.refl w⟩, dec_f fun hge => ?_⟩
  · unfold openB
    rw [if_pos (by omega)]
  · have wr : IntKind.i64.wrap ((s.size : Int) - 4) = (s.size : Int) - 4 := wrap64 _ (by omega) (by omega)
    rw [wr]
    have htn : ((s.size : Int) - 4).toNat = s.size - 4 := by omega
    have hs1 : s.extract 0 (s.size - 4) = strB (s.data.toList.take (s.size - 4)) := by
      conv => lhs; rw [← strB_list s]
      rw [strB_extract, List.drop_zero, Nat.sub_zero]
    have hs2 : s.extract (s.size - 4) s.size = strB (s.data.toList.drop (s.size - 4)) := by
      conv => lhs; rw [← strB_list s]
      rw [strB_extract, strB_size, hl]
      congr 1
      rw [List.take_of_length_le (by rw [List.length_drop, hl]; omega)]
    refine ⟨strB (s.data.toList.take (s.size - 4)), w, by rw [slice_to (by kernel_rfl) (by omega) (by omega), htn, hs1], fun w' => Ext w w', (Ext.refl w).drew, strB (s.data.toList.drop (s.size - 4)), fun w' _ => by rw [slice_from (by kernel_rfl) (by omega) (by omega), htn, hs2], ?_⟩
    have hz : (strB (s.data.toList.take (s.size - 4))).size ≤ 1000000000 := by rw [strB_size, List.length_take]; omega
    refine (rsum_spec _ hz _).mono fun e w1 ⟨he, hx1⟩ => ⟨_, he, ((Ext.refl w).drew).trans hx1, ?_⟩
    refine (rfour_spec _ w1).mono fun e w2 ⟨he, hx2⟩ => ⟨_, he, (((Ext.refl w).drew).trans hx1).trans hx2, ?_⟩
    have hx := (((Ext.refl w).drew).trans hx1).trans hx2
    have e1 : (strB (four (crcSum (strB (s.data.toList.take (s.size - 4))).data.toList))).toList = four (crcSum (s.data.toList.take (s.size - 4))) := strB_toList _
    rw [e1, strB_toList]
    have ho : openB s.data.toList = if four (crcSum (s.data.toList.take (s.size - 4))) = s.data.toList.drop (s.size - 4) then (s.data.toList.take (s.size - 4), true) else ([], false) := by
      unfold openB
      rw [if_neg (by omega), hl]
    by_cases hq : four (crcSum (s.data.toList.take (s.size - 4))) = s.data.toList.drop (s.size - 4)
    · rw [ho, if_pos hq, hq]
      simp only [beq_self_eq_true, Bool.not_true]
      exact ⟨fun h => (by cases h), fun _ => ⟨trivial, hx⟩⟩
    · rw [ho, if_neg hq]
      have : (s.data.toList.drop (s.size - 4) == four (crcSum (s.data.toList.take (s.size - 4)))) = false := by
        simp only [beq_eq_false_iff_ne, ne_eq]
        exact fun h => hq h.symm
      rw [this]
      exact yes rfl ⟨rfl, hx⟩
end Go.Proofs.YtmipjkalfodcpaaDoor
end
section
/-! The reference's Seal. -/
namespace Go.Proofs.YtmipjkalfodcpaaDoor
open Go.Sh Go.RowKit
set_option linter.unusedVariables false
set_option maxRecDepth 20000
set_option maxHeartbeats 1000000
theorem rseal_spec (s : ByteArray) (size : Nat) (hs : s.size + 4 ≤ size) (hz : size ≤ 4096) (w : World) : Ret Tryd.prog 21 #[.string s, .int .i64 (size : Int)] w (.tuple #[.string (strB (sealB s.data.toList size)), .bool true]) := by
  refine ret_of (revetmentref02_Seal_calls ?_)
  unfold revetmentref02_Seal
  have wr : IntKind.i64.wrap ((size : Int) - 4) = (size : Int) - 4 := wrap64 _ (by omega) (by omega)
  have hl : s.data.toList.length = s.size := Array.length_toList
  rw [wr]
  refine no (decide_eq_false (by omega)) (no (decide_eq_false (by omega)) (no (decide_eq_false (by omega)) ?_))
  refine ⟨fun vs w' => w' = w ∧ ∃ k : Nat, vs = [.string (strB (s.data.toList ++ List.replicate k 0))] ∧ s.size + k ≤ size - 4, fun vs _ => match vs with | [.string t] => size - t.size | _ => 0, ⟨rfl, 0, by rw [List.replicate_zero, List.append_nil, strB_list], by omega⟩, ?_⟩
  rintro vs w1 ⟨rfl, k, rfl, hk⟩
  have hsz : (strB (s.data.toList ++ List.replicate k 0)).size = s.size + k := by rw [strB_size]; simp [hl]
  refine ⟨_, rfl, dec_t fun hlt => ?_, dec_f fun hge => ?_⟩
  · rw [hsz] at hlt
    have e0 : (ByteArray.mk #[0]) = strB [0] := rfl
    have es : strB (s.data.toList ++ List.replicate k 0) ++ ByteArray.mk #[0] = strB (s.data.toList ++ List.replicate (k + 1) 0) := by
      rw [e0, strB_append, List.append_assoc, List.replicate_succ']
    refine ⟨by rw [hsz]; have : (ByteArray.mk #[0]).size = 1 := rfl
               omega, ⟨rfl, k + 1, by rw [es], by omega⟩, ?_⟩
    rw [es]
    show size - (strB (s.data.toList ++ List.replicate (k + 1) 0)).size < size - (strB (s.data.toList ++ List.replicate k 0)).size
    rw [hsz, strB_size]
    simp [hl]; omega
  · rw [hsz] at hge
    have hke : k = size - 4 - s.size := by omega
    have hp : strB (s.data.toList ++ List.replicate k 0) = strB (padB s.data.toList (size - 4)) := by unfold padB; rw [hke, hl]
    rw [hp]
    have hpl : (padB s.data.toList (size - 4)).length = size - 4 := padB_len (by omega)
    refine (rsum_spec _ (by rw [strB_size, hpl]; omega) _).mono fun e w2 ⟨he, hx2⟩ => ⟨_, he, ?_⟩
    refine (rfour_spec _ w2).mono fun e w3 ⟨he, hx3⟩ => ⟨_, he, by rw [strB_size, strB_size, hpl]; have := four_len (crcSum (strB (padB s.data.toList (size - 4))).data.toList); omega, ?_, hx2.trans hx3⟩
    rw [strB_append]
    rfl
end Go.Proofs.YtmipjkalfodcpaaDoor
end
section
/-! The reference's pack: Size, Fits, Encode, Decode. -/
namespace Go.Proofs.YtmipjkalfodcpaaDoor
open Go.Sh Go.RowKit
set_option linter.unusedVariables false
set_option linter.unusedSimpArgs false
set_option maxRecDepth 20000
set_option maxHeartbeats 1000000
theorem rsize_spec {ws : List Nat} (hv : Wid ws) {w : World} {g : Option Nat} {cap : Nat} (hm : readsW w g ws) : Ret Tryd.prog 39 #[.slice (ptr g) ws.length cap] w (.tuple #[.int .i64 (ws.sum : Int), .int .i64 0]) := by
  refine ret_of (revetmentref03_Size_calls ?_)
  unfold revetmentref03_Size
  have hs := hv.sum
  have hl := hv.1
  refine no (decide_eq_false (by omega)) ?_
  refine ⟨fun vs w' => w' = w ∧ ∃ i : Nat, vs = [.int .i64 (wsum ws i : Int), .int .i64 (i : Int)] ∧ i ≤ ws.length, fun vs _ => match vs with | [_, .int _ i] => (ws.length - i).toNat | _ => 0, ⟨rfl, 0, rfl, by omega⟩, ?_⟩
  rintro vs w1 ⟨rfl, i, rfl, hi⟩
  refine ⟨_, _, rfl, dec_t fun hlt => ?_, dec_f fun hge => ?_⟩
  · have hlt : i < ws.length := by omega
    obtain ⟨b, rfl, hc⟩ := hm i ws[i] (by simp [hlt])
    have hx := hv.at (i := i) (x := ws[i]) (by simp [hlt])
    have hst := wsum_step (ws := ws) (i := i) (x := ws[i]) (by simp [hlt])
    have hmx := wsum_max (ws := ws) (i + 1)
    have hcell : w1.cell? (Addr.add ⟨b, 0, none⟩ ((i : Int).toNat * 1)) = some (.int .i64 (ws[i] : Int)) := by rw [addr_add, Nat.zero_add, Nat.mul_one, Int.toNat_natCast]; exact hc
    refine ⟨_, rfl, by omega, by omega, _, hcell, no (decide_eq_false (by omega)) ⟨_, rfl, by omega, by omega, _, hcell, no (decide_eq_false (by omega)) ⟨_, rfl, by omega, by omega, _, hcell, ⟨rfl, i + 1, ?_, by omega⟩, ?_⟩⟩⟩
    · rw [wrap64 _ (by omega) (by omega), wrap64 _ (by omega) (by omega), hst]; simp
    · show ((ws.length : Int) - IntKind.i64.wrap ((i : Int) + 1)).toNat < ((ws.length : Int) - (i : Int)).toNat
      rw [wrap64 _ (by omega) (by omega)]; omega
  · have hie : i = ws.length := by omega
    subst hie
    rw [wsum_all ws (Nat.le_refl _)]
    exact ⟨rfl, Ext.refl _⟩
theorem rfits_spec (n x : Nat) (hn : n < 256 ^ x) (hx : 1 ≤ x ∧ x ≤ 8) (w : World) : Ret Tryd.prog 40 #[.int .u64 (n : Int), .int .i64 (x : Int)] w (.bool true) := by
  refine ret_of (revetmentref03_Fits_calls ?_)
  unfold revetmentref03_Fits
  refine no (decide_eq_false (by omega)) (no (decide_eq_false (by omega)) ?_)
  refine ⟨fun vs w' => w' = w ∧ ∃ k : Nat, vs = [.int .u64 ((n / 256 ^ k : Nat) : Int), .int .i64 (k : Int)] ∧ k ≤ x, fun vs _ => match vs with | [_, .int _ k] => (x - k).toNat | _ => 0, ⟨rfl, 0, by rw [Nat.pow_zero, Nat.div_one]; rfl, by omega⟩, ?_⟩
  rintro vs w1 ⟨rfl, k, rfl, hk⟩
  refine ⟨_, _, rfl, dec_t fun hlt => ?_, dec_f fun hge => ?_⟩
  · have e : Int.fdiv ((n / 256 ^ k : Nat) : Int) (2 ^ 8) = ((n / 256 ^ (k + 1) : Nat) : Int) := by
      rw [Int.fdiv_eq_ediv_of_nonneg _ (by decide), Nat.pow_succ, ← Nat.div_div_eq_div_mul]; push_cast; rfl
    rw [e]
    refine ⟨⟨rfl, k + 1, by rw [wrap64 _ (by omega) (by omega)]; rfl, by omega⟩, ?_⟩
    show ((x : Int) - IntKind.i64.wrap ((k : Int) + 1)).toNat < ((x : Int) - (k : Int)).toNat
    rw [wrap64 _ (by omega) (by omega)]; omega
  · have hkx : k = x := by omega
    subst hkx
    rw [Nat.div_eq_of_lt hn]
    exact ⟨rfl, Ext.refl _⟩
theorem rencode_spec {ns ws : List Nat} (hv : Wid ws) (hl : ns.length = ws.length) (hf : ∀ (i n x : Nat), ns[i]? = some n → ws[i]? = some x → n < 256 ^ x) {F : List Nat} {w0 w : World} {Γ : List A} (hT : T F w0 w Γ) {g1 g2 : Option Nat} {n1 n2 c1 c2 : Nat} (hn1 : n1 = ns.length) (hn2 : n2 = ws.length)
    (hm1 : rowP 22 1 g1 n1 c1 (u64s ns) ∈ Γ) (hm2 : rowP 3 1 g2 n2 c2 (ints ws) ∈ Γ) :
    Calls Tryd.prog 20 #[.slice (ptr g1) n1 c1, .slice (ptr g2) n2 c2] w fun e w' => e = .returned (.tuple #[.string (strB (encP ns ws)), .int .i64 0]) ∧ T F w0 w' Γ := by
  subst hn1 hn2
  refine (revetmentref03_Encode_calls (R := fun v w' => v = .tuple #[.string (strB (encP ns ws)), .int .i64 0] ∧ T F w0 w' Γ) ?_).mono fun e w' ⟨v, he, hv, h⟩ => ⟨by rw [he, hv], h⟩
  unfold revetmentref03_Encode
  have hs := hv.sum
  have hw64 := hv.1
  refine (rsize_spec hv (T.readsW hT hm2)).mono fun e w1 ⟨he, hx⟩ => ⟨_, _, he, no rfl (no (by simp [hl]) ?_)⟩
  have h1 := hT.quiet hx
  refine Alloc.t h1 fun k24 w2 h2 => ?_
  have h2 : T F w0 w2 (rowP 5 1 (some k24) 0 0 (bvals ((encP ns ws).take 0)) :: Γ) := blk_row h2 rfl rfl (by decide)
  refine ⟨fun vs w' => ∃ (i : Nat) (g : Option Nat) (cap : Nat), vs = [.slice (ptr g) (wsum ws i) cap, .int .i64 (i : Int)] ∧ i ≤ ws.length ∧ T F w0 w' (rowP 5 1 g (wsum ws i) cap (bvals ((encP ns ws).take (wsum ws i))) :: Γ), fun vs _ => match vs with | [_, .int _ i] => (ws.length - i).toNat | _ => 0, ⟨0, some k24, 0, rfl, by omega, h2⟩, ?_⟩
  rintro vs w3 ⟨i, g, cap, rfl, hi, h3⟩
  refine ⟨_, _, _, _, rfl, dec_t fun hlt => ?_, dec_f fun hge => ?_⟩
  · have hlt : i < ws.length := by omega
    have hx : ws[i]? = some ws[i] := by simp [hlt]
    have hn : ns[i]? = some (ns[i]'(by omega)) := by simp [hl, hlt]
    generalize ns[i]'(by omega) = v at hn
    generalize ws[i] = x at hx
    have h8 := hv.at hx
    have hst := wsum_step hx
    have hmx := wsum_max (ws := ws) (i + 1)
    obtain ⟨b1, rfl, _, _⟩ := T.cell1 hT hm1 (u64s_get hn)
    obtain ⟨b2, rfl, _, _⟩ := T.cell1 hT hm2 (ints_get hx)
    have rn : ∀ {w' : World} {Γ' : List A}, T F w0 w' Γ' → rowP 22 1 (some b1) ns.length c1 (u64s ns) ∈ Γ' → w'.cell? (Addr.add ⟨b1, 0, none⟩ ((i : Int).toNat * 1)) = some (.int .u64 (v : Int)) := fun h m => by
      obtain ⟨b', hb', _, hc⟩ := T.cell1 h m (u64s_get hn)
      cases hb'
      rw [Int.toNat_natCast]; exact hc
    have rw_ : ∀ {w' : World} {Γ' : List A}, T F w0 w' Γ' → rowP 3 1 (some b2) ws.length c2 (ints ws) ∈ Γ' → w'.cell? (Addr.add ⟨b2, 0, none⟩ ((i : Int).toNat * 1)) = some (.int .i64 (x : Int)) := fun h m => by
      obtain ⟨b', hb', _, hc⟩ := T.cell1 h m (ints_get hx)
      cases hb'
      rw [Int.toNat_natCast]; exact hc
    refine ⟨fun w' => T F w0 w' (_ :: Γ), h3.drew, _, rfl, by omega, by omega, (v : Int), fun w' hd => rn hd (List.mem_cons_of_mem _ hm1), _, rfl, by omega, by omega, (x : Int), fun w' hd => rw_ hd (List.mem_cons_of_mem _ hm2), ?_⟩
    refine (rfits_spec v x (hf i v x hn hx) h8 _).mono fun e w4 ⟨he, hx4⟩ => ⟨_, he, h3.drew.quiet hx4, no rfl ?_⟩
    have h4 := h3.drew.quiet hx4
    refine ⟨fun vs w' => ∃ (k : Nat) (g : Option Nat) (cap : Nat), vs = [.slice (ptr g) (wsum ws i + k) cap, .int .i64 (k : Int)] ∧ k ≤ x ∧ T F w0 w' (rowP 5 1 g (wsum ws i + k) cap (bvals ((encP ns ws).take (wsum ws i + k))) :: Γ), fun vs _ => match vs with | [_, .int _ k] => (x - k).toNat | _ => 0, ⟨0, g, cap, rfl, by omega, h4⟩, ?_⟩
    rintro vs w5 ⟨k, g', cap', rfl, hk, h5⟩
    refine ⟨_, _, _, _, rfl, _, rfl, by omega, by omega, (x : Int), rw_ h5 (List.mem_cons_of_mem _ hm2), dec_t fun hkl => ?_, dec_f fun hkg => ?_⟩
    · have hk8 : IntKind.i64.wrap (8 * (k : Int)) = ((8 * k : Nat) : Int) := by rw [wrap64 _ (by omega) (by omega)]; omega
      rw [hk8]
      have hbyte : IntKind.u8.wrap (Int.fdiv (v : Int) (2 ^ (min ((8 * k : Nat) : Int).toNat 64))) = ((UInt8.ofNat (v / 2 ^ (8 * k))).toNat : Int) := by
        rw [Int.toNat_natCast, Nat.min_eq_left (by omega), Int.fdiv_eq_ediv_of_nonneg _ (Int.le_of_lt (Int.pow_pos (by decide))), wrap8]
        have : ((v : Int) / 2 ^ (8 * k)) = ((v / 2 ^ (8 * k) : Nat) : Int) := by push_cast; rfl
        rw [this]
        simp
      refine ⟨_, rfl, by omega, by omega, (v : Int), rn h5 (List.mem_cons_of_mem _ hm1), by omega, ?_⟩
      rw [hbyte]
      refine push1_t (i := Tryd.t5) (z := .int .u8 0) (by kernel_rfl) (by kernel_rfl) (by kernel_rfl) (by kernel_rfl) (by kernel_rfl) (by kernel_rfl) h5 .head rfl (by omega) fun g2 cap2 w7 h7 => ⟨⟨k + 1, g2, cap2, ?_, by omega, ?_⟩, ?_⟩
      · rw [wrap64 _ (by omega) (by omega)]; rfl
      · have e : bvals ((encP ns ws).take (wsum ws i + k)) ++ [.int .u8 ((UInt8.ofNat (v / 2 ^ (8 * k))).toNat : Int)] = bvals ((encP ns ws).take (wsum ws i + (k + 1))) := by
          rw [← Nat.add_assoc, encP_take_step hx hn (by omega), ← bvals_append]; rfl
        rw [e] at h7
        exact h7
      · show ((x : Int) - IntKind.i64.wrap ((k : Int) + 1)).toNat < ((x : Int) - (k : Int)).toNat
        rw [wrap64 _ (by omega) (by omega)]; omega
    · have hkx : k = x := by omega
      subst hkx
      refine ⟨⟨i + 1, g', cap', ?_, by omega, ?_⟩, ?_⟩
      · rw [wrap64 _ (by omega) (by omega), hst]; rfl
      · rw [hst]; exact h5
      · show ((ws.length : Int) - IntKind.i64.wrap ((i : Int) + 1)).toNat < ((ws.length : Int) - (i : Int)).toNat
        rw [wrap64 _ (by omega) (by omega)]; omega
  · have hie : i = ws.length := by omega
    subst hie
    rw [wsum_all ws (Nat.le_refl _)] at h3 ⊢
    rw [List.take_of_length_le (by rw [encP_len ns ws hl]; exact Nat.le_refl _)] at h3
    exact ⟨_, w3, row_string h3 List.mem_cons_self, rfl, h3.drop⟩
theorem rdecode_spec {ws : List Nat} (hv : Wid ws) {s : ByteArray} (hsz : s.size = ws.sum) {F : List Nat} {w0 w : World} {Γ : List A} (hT : T F w0 w Γ) {g2 : Option Nat} {n2 c2 : Nat} (hn2 : n2 = ws.length)
    (hm2 : rowP 3 1 g2 n2 c2 (ints ws) ∈ Γ) :
    Calls Tryd.prog 27 #[.string s, .slice (ptr g2) n2 c2] w fun e w' => ∃ g cap, e = .returned (.tuple #[.slice (ptr g) ws.length cap, .int .i64 0]) ∧ T F w0 w' (rowP 22 1 g ws.length cap (u64s (decP s.data.toList ws)) :: Γ) := by
  subst hn2
  refine (revetmentref03_Decode_calls (R := fun v w' => ∃ g cap, v = .tuple #[.slice (ptr g) ws.length cap, .int .i64 0] ∧ T F w0 w' (rowP 22 1 g ws.length cap (u64s (decP s.data.toList ws)) :: Γ)) ?_).mono fun e w' ⟨v, he, g, cap, hv, h⟩ => ⟨g, cap, by rw [he, hv], h⟩
  unfold revetmentref03_Decode
  have hs := hv.sum
  have hw64 := hv.1
  have hlen : s.data.toList.length = ws.sum := by rw [Array.length_toList]; exact hsz
  have hdl : (decP s.data.toList ws).length = ws.length := decP_len _ ws
  refine (rsize_spec hv (T.readsW hT hm2)).mono fun e w1 ⟨he, hx⟩ => ⟨_, _, he, no rfl (no (by rw [hsz]; simp) ?_)⟩
  have h1 := hT.quiet hx
  refine Alloc.t h1 fun k25 w2 h2 => ?_
  have h2 : T F w0 w2 (rowP 22 1 (some k25) 0 0 (u64s ((decP s.data.toList ws).take 0)) :: Γ) := blk_row h2 rfl rfl (by decide)
  refine ⟨fun vs w' => ∃ (i : Nat) (g : Option Nat) (cap : Nat), vs = [.slice (ptr g) i cap, .int .i64 (wsum ws i : Int), .int .i64 (i : Int)] ∧ i ≤ ws.length ∧ T F w0 w' (rowP 22 1 g i cap (u64s ((decP s.data.toList ws).take i)) :: Γ), fun vs _ => match vs with | [_, _, .int _ i] => (ws.length - i).toNat | _ => 0, ⟨0, some k25, 0, rfl, by omega, h2⟩, ?_⟩
  rintro vs w3 ⟨i, g, cap, rfl, hi, h3⟩
  refine ⟨_, _, _, _, _, rfl, dec_t fun hlt => ?_, dec_f fun hge => ?_⟩
  · have hlt : i < ws.length := by omega
    have hx : ws[i]? = some ws[i] := by simp [hlt]
    generalize ws[i] = x at hx
    have h8 := hv.at hx
    have hst := wsum_step hx
    have hmx := wsum_max (ws := ws) (i + 1)
    obtain ⟨b2, rfl, _, _⟩ := T.cell1 hT hm2 (ints_get hx)
    have rw_ : ∀ {w' : World} {Γ' : List A}, T F w0 w' Γ' → rowP 3 1 (some b2) ws.length c2 (ints ws) ∈ Γ' → w'.cell? (Addr.add ⟨b2, 0, none⟩ ((i : Int).toNat * 1)) = some (.int .i64 (x : Int)) := fun h m => by
      obtain ⟨b', hb', _, hc⟩ := T.cell1 h m (ints_get hx)
      cases hb'
      rw [Int.toNat_natCast]; exact hc
    refine ⟨fun vs w' => w' = w3 ∧ ∃ k : Nat, vs = [.int .u64 (curP s.data.toList ws (wsum ws i + k) i : Int), .int .i64 (k : Int)] ∧ k ≤ x, fun vs _ => match vs with | [_, .int _ k] => (x - k).toNat | _ => 0, ⟨rfl, 0, ?_, by omega⟩, ?_⟩
    · have : curP s.data.toList ws (wsum ws i + 0) i = 0 := by simp [curP, leN]
      rw [this]; rfl
    rintro vs w4 ⟨rfl, k, rfl, hk⟩
    refine ⟨_, _, rfl, _, rfl, by omega, by omega, (x : Int), rw_ h3 (List.mem_cons_of_mem _ hm2), dec_t fun hkl => ?_, dec_f fun hkg => ?_⟩
    · have hkl : k < x := by omega
      have hb : s.data.toList[wsum ws i + k]? = some (s.data.toList[wsum ws i + k]'(by omega)) := by simp
      generalize s.data.toList[wsum ws i + k]'(by omega) = b at hb
      obtain ⟨hst2, hlt2⟩ := curP_step hx hkl hb
      have hbb := b.toNat_lt
      have hp : (256 : Nat) ^ k = 2 ^ (8 * k) := by rw [Nat.pow_mul]
      rw [hp] at hst2 hlt2
      have hval : curP s.data.toList ws (wsum ws i + k) i + b.toNat * 2 ^ (8 * k) < 18446744073709551616 := by
        have h1 : b.toNat * 2 ^ (8 * k) ≤ 255 * 2 ^ (8 * k) := Nat.mul_le_mul_right _ (by omega)
        have h2 : (2 : Nat) ^ (8 * k) ≤ 2 ^ 56 := Nat.pow_le_pow_right (by decide) (by omega)
        have h3 : (2 : Nat) ^ 56 = 72057594037927936 := by decide
        omega
      have hk8 : IntKind.i64.wrap (8 * (k : Int)) = ((8 * k : Nat) : Int) := by rw [wrap64 _ (by omega) (by omega)]; omega
      have hwr : IntKind.u64.wrap (IntKind.u64.wrap ((b.toNat : Nat) : Int) * 2 ^ (min ((8 * k : Nat) : Int).toNat 64)) = ((b.toNat * 2 ^ (8 * k) : Nat) : Int) := by
        rw [Int.toNat_natCast, Nat.min_eq_left (by omega)]
        have e1 : IntKind.u64.wrap ((b.toNat : Nat) : Int) = ((b.toNat : Nat) : Int) := by rw [wrapU64]; omega
        have e2 : ((b.toNat : Nat) : Int) * 2 ^ (8 * k) = ((b.toNat * 2 ^ (8 * k) : Nat) : Int) := by push_cast; rfl
        rw [e1, e2, wrapU64]; omega
      have hor := or64 hlt2 hval
      have hat : IntKind.i64.wrap ((wsum ws i : Int) + (k : Int)) = ((wsum ws i + k : Nat) : Int) := by rw [wrap64 _ (by omega) (by omega)]; omega
      have hix := index_str (P := Tryd.prog) (t := 9) (k := .i64) (n := ((wsum ws i + k : Nat) : Int)) (s := s) (w := w4) (by kernel_rfl) (by omega) (by omega)
      rw [Int.toNat_natCast] at hix
      have hgd : s.data.toList.getD (wsum ws i + k) 0 = b := by simp [List.getD, hb]
      rw [hgd] at hix
      rw [hat, hk8]
      refine ⟨_, w4, hix, by omega, ?_⟩
      rw [hwr, hor, ← hst2]
      refine ⟨⟨rfl, k + 1, ?_, by omega⟩, ?_⟩
      · rw [wrap64 _ (by omega) (by omega)]; rfl
      · show ((x : Int) - IntKind.i64.wrap ((k : Int) + 1)).toNat < ((x : Int) - (k : Int)).toNat
        rw [wrap64 _ (by omega) (by omega)]; omega
    · have hkx : k = x := by omega
      subst hkx
      have hget : (decP s.data.toList ws)[i]? = some (curP s.data.toList ws (wsum ws i + k) i) := by
        rw [decP_get ws s.data.toList i k hx]
        have : ws.getD i 0 = k := by simp [List.getD, hx]
        unfold curP
        rw [this, Nat.add_sub_cancel_left, Nat.min_self]
      refine push1_t (i := Tryd.t22) (z := .int .u64 0) (by kernel_rfl) (by kernel_rfl) (by kernel_rfl) (by kernel_rfl) (by kernel_rfl) (by kernel_rfl) h3 .head rfl (by omega) fun g3 cap3 w7 h7 => ?_
      rw [u64s_take _ _ _ hget] at h7
      refine ⟨_, rfl, by omega, by omega, (k : Int), rw_ h7 (List.mem_cons_of_mem _ hm2), ⟨i + 1, g3, cap3, ?_, by omega, h7⟩, ?_⟩
      · rw [wrap64 _ (by omega) (by omega), wrap64 _ (by omega) (by omega), hst]
        simp
      · show ((ws.length : Int) - IntKind.i64.wrap ((i : Int) + 1)).toNat < ((ws.length : Int) - (i : Int)).toNat
        rw [wrap64 _ (by omega) (by omega)]; omega
  · have hie : i = ws.length := by omega
    subst hie
    rw [List.take_of_length_le (by omega)] at h3
    exact ⟨g, cap, rfl, h3⟩
end Go.Proofs.YtmipjkalfodcpaaDoor
end
section
/-! Pages compared; the reference's Encode and Decode. -/
namespace Go.Proofs.YtmipjkalfodcpaaDoor
open Go.Sh Go.RowKit
set_option linter.unusedVariables false
set_option linter.unusedSimpArgs false
set_option maxRecDepth 20000
set_option maxHeartbeats 1000000
theorem eq_str (d : Nat) (w : World) (a b : List UInt8) : (Op.equalIn (d + 1) 9 (.string (strB a)) (.string (strB b))).run Tryd.prog w = .ok (decide (a = b)) w := by
  rw [run_equalIn_string w d 9 _ _ (by kernel_rfl), strB_toList, strB_toList]
  congr 1
  by_cases h : a = b
  · rw [decide_eq_true h, h]; simp
  · rw [decide_eq_false h]; simpa using h
theorem pgFields : (Tryd.prog.fieldsOf 24).toList = [Field.mk "Events" 22 0 false "" "" 0, Field.mk "Bits" 9 1 false "" "" 8] := by kernel_rfl
theorem rpgFields : (Tryd.prog.fieldsOf 30).toList = [Field.mk "Events" 22 0 false "" "" 0, Field.mk "Bits" 9 1 false "" "" 8] := by kernel_rfl
theorem ppt0 (a : PgV) (w : World) : (part 22 (pgC a) 0).run Tryd.prog w = .ok (.int .u64 (a.ev : Int)) w := by kernel_rfl
theorem ppt1 (a : PgV) (w : World) : (part 9 (pgC a) 1).run Tryd.prog w = .ok (.string (strB a.bits)) w := by kernel_rfl
theorem equal_pgF (d : Nat) (a b : PgV) (w : World) : (Op.eqFields (d + 1) (pgC a) (pgC b) [Field.mk "Events" 22 0 false "" "" 0, Field.mk "Bits" 9 1 false "" "" 8]).run Tryd.prog w = .ok (decide (a = b)) w := by
  have h2 : (Op.eqFields (d + 1) (pgC a) (pgC b) []).run Tryd.prog w = .ok true w := eqNil
  have h1 := eqStep "Bits" 9 1 false "" "" 8 (by decide) (ppt1 a w) (ppt1 b w) (eq_str d _ _ _) h2
  have h0 := eqStep "Events" 22 0 false "" "" 0 (by decide) (ppt0 a w) (ppt0 b w) (eq_u64 d _ _ _) h1
  refine h0.trans ?_
  congr 1
  obtain ⟨a0, a1⟩ := a
  obtain ⟨b0, b1⟩ := b
  simp only [PgV.mk.injEq]
  rw [Bool.eq_iff_iff]
  simp
  omega
theorem equal_pg (d : Nat) (a b : PgV) (w : World) : (Op.equalIn (d + 2) 24 (.agg (pgC a)) (.agg (pgC b))).run Tryd.prog w = .ok (decide (a = b)) w := by
  rw [run_equalIn_agg w (d + 1) 24 _ _ (by kernel_rfl) (by kernel_rfl), pgFields]
  exact equal_pgF d a b w
theorem requal_pg (d : Nat) (a b : PgV) (w : World) : (Op.equalIn (d + 2) 30 (.agg (pgC a)) (.agg (pgC b))).run Tryd.prog w = .ok (decide (a = b)) w := by
  rw [run_equalIn_agg w (d + 1) 30 _ _ (by kernel_rfl) (by kernel_rfl), rpgFields]
  exact equal_pgF d a b w
theorem eql_pg (a b : PgV) (x y : Operand) (w : World) : (do eqGuard .eql 24 x y (.agg (pgC a)) (.agg (pgC b)); binOp .eql 24 (.agg (pgC a)) (.agg (pgC b)) : Sem Value).run Tryd.prog w = .ok (.bool (decide (a = b))) w := by
  rw [Sem.run_bind, run_eqGuard_agg _ _ _ _ _ _ _ (by kernel_rfl), Result.andThen_ok, run_eql_struct, equal_pg 9998 a b w]
  rfl
theorem rneq_pg (a b : PgV) (x y : Operand) (w : World) : (do eqGuard .neq 30 x y (.agg (pgC a)) (.agg (pgC b)); binOp .neq 30 (.agg (pgC a)) (.agg (pgC b)) : Sem Value).run Tryd.prog w = .ok (.bool (!decide (a = b))) w := by
  rw [Sem.run_bind, run_eqGuard_agg _ _ _ _ _ _ _ (by kernel_rfl), Result.andThen_ok, run_neq_struct, requal_pg 9998 a b w]
  rfl
theorem rpencode_spec {p : PgV} (he : p.ev < 2 ^ 64) (hb : p.bits.length ≤ 1000000) (w : World) : Ret Tryd.prog 8 #[.agg (pgC p)] w (.tuple #[.string (strB (encPgF p).1), .int .i64 (encPgF p).2]) := by
  refine ret_of (revetmentref11_Encode_calls ?_)
  unfold revetmentref11_Encode
  refine Alloc.t (T.nil w) fun k1 w1 h1 => ⟨_, h1.ld (b := k1) (by repeat (first | exact List.Mem.head _ | refine List.Mem.tail _ ?_)) rfl, bne_t fun hne => ?_, bne_f fun heq => ?_⟩
  · rw [strB_size] at hne
    unfold encPgF
    rw [if_neg (by omega)]
    exact ⟨rfl, h1.chg.ext⟩
  rw [strB_size] at heq
  have h8 : p.bits.length = 8 := by omega
  refine ⟨_, h1.ld (b := k1) (by repeat (first | exact List.Mem.head _ | refine List.Mem.tail _ ?_)) rfl, Alloc.t h1 fun k15 w2 h2 => ?_⟩
  have h2 : T [] w w2 (rowP 22 1 (some k15) 1 1 (u64s [p.ev]) :: [blk k1 (pgC p) 30]) := blk_row h2 rfl rfl (by decide)
  refine Alloc.t h2 fun k16 w3 h3 => ?_
  have h3 : T [] w w3 (rowP 3 1 (some k16) 1 1 (ints [8]) :: rowP 22 1 (some k15) 1 1 (u64s [p.ev]) :: [blk k1 (pgC p) 30]) := blk_row h3 rfl rfl (by decide)
  refine (rencode_spec (ns := [p.ev]) (ws := [8]) wid8 rfl (fit8 he) h3 (g1 := some k15) (g2 := some k16) (n1 := 1) (n2 := 1) (c1 := 1) (c2 := 1) rfl rfl (by repeat (first | exact List.Mem.head _ | refine List.Mem.tail _ ?_)) (by repeat (first | exact List.Mem.head _ | refine List.Mem.tail _ ?_))).mono fun e w4 ⟨he', h4⟩ => ⟨_, _, he', ?_⟩
  rw [encP8]
  have e4 : (ByteArray.mk #[82, 86, 84, 66]) = strB magB := rfl
  have l8 := leB_len p.ev 8
  rw [e4, strB_size, strB_size, strB_append]
  refine ⟨by rw [l8]; decide, _, h4.ld (b := k1) (i := 1) (by repeat (first | exact List.Mem.head _ | refine List.Mem.tail _ ?_)) rfl, by rw [strB_size, strB_size, List.length_append, l8, h8]; decide, ?_⟩
  rw [strB_append]
  have hl : (magB ++ leB p.ev 8 ++ p.bits).length = 20 := by simp [magB, l8, h8]
  refine (rseal_spec (strB (magB ++ leB p.ev 8 ++ p.bits)) 64 (by rw [strB_size, hl]; omega) (by omega) w4).mono fun e w5 ⟨he5, hx5⟩ => ⟨_, _, he5, ?_, h4.chg.ext.trans hx5⟩
  unfold encPgF
  rw [if_pos h8]; rfl
theorem drop_idx {l : List UInt8} (hl : l.length = 60) : ∀ x : UInt8, x ∈ l.drop 20 ↔ ∃ j, 20 ≤ j ∧ j < 60 ∧ l.getD j 0 = x := fun x => by
  constructor
  · intro hx
    obtain ⟨j, hj, rfl⟩ := List.getElem_of_mem hx
    rw [List.length_drop, hl] at hj
    refine ⟨20 + j, by omega, by omega, ?_⟩
    rw [List.getElem_drop]
    simp [List.getD, show 20 + j < l.length by omega]
  · rintro ⟨j, h1, h2, rfl⟩
    have : l.getD j 0 = (l.drop 20)[j - 20]'(by rw [List.length_drop]; omega) := by
      rw [List.getElem_drop]
      simp [List.getD, show j < l.length by omega, show 20 + (j - 20) = j by omega]
    rw [this]; exact List.getElem_mem _
theorem rpdecode_spec (s : ByteArray) (hs : s.size ≤ 1000000) (w : World) : Ret Tryd.prog 10 #[.string s] w (.tuple #[.agg (pgC (decPg s.data.toList).1), .int .i64 (decPg s.data.toList).2]) := by
  refine ret_of (revetmentref11_Decode_calls ?_)
  unfold revetmentref11_Decode
  obtain ⟨b, rfl⟩ : ∃ b, s = strB b := ⟨s.data.toList, (strB_list s).symm⟩
  rw [strB_size] at hs ⊢
  have eb : (strB b).data.toList = b := rfl
  rw [eb]
  refine Alloc.t (T.nil w) fun k2 w1 h1 => ?_
  have bad : ∀ (w' : World) (Γ : List A) (x : Int), T [] w w' Γ → (∃ Δ, Γ.Perm (blk k2 (pgC pgZ) 30 :: Δ)) → decPg b = (pgZ, x) →
      St ⟨k2, 0, none⟩ (.int .u64 0) w' fun w2 => St ⟨k2, 1, none⟩ (.string (ByteArray.mk #[])) w2 fun w3 => ∃ nr2_0 : Int, ∃ sr2_1 : ByteArray, (w3.cell? ⟨k2, 0, none⟩ = some (.int .u64 nr2_0) ∧ w3.cell? ⟨k2, 1, none⟩ = some (.string sr2_1)) ∧
        RetR w (.tuple #[.agg (pgC (decPg b).1), .int .i64 (decPg b).2]) (.tuple #[.agg #[.int .u64 nr2_0, .string sr2_1], .int .i64 x]) w3 := by
    rintro w' Γ x hT ⟨Δ, hp⟩ hd
    have hT := hT.swap hp
    refine St.t (c' := pgC pgZ) hT .head (show 0 < 2 by decide) rfl rfl fun w2 h2 => St.t (c' := pgC pgZ) h2 .head (show 1 < 2 by decide) rfl rfl fun w3 h3 => ?_
    refine ⟨_, _, ⟨h3.ld (b := k2) (by repeat (first | exact List.Mem.head _ | refine List.Mem.tail _ ?_)) rfl, h3.ld (b := k2) (i := 1) (by repeat (first | exact List.Mem.head _ | refine List.Mem.tail _ ?_)) rfl⟩, ?_, h3.chg.ext⟩
    rw [hd]; rfl
  refine ⟨bne_t fun hne => ?_, bne_f fun heq => ?_⟩
  · refine bad w1 _ 31 h1 ⟨_, .refl _⟩ ?_
    unfold decPg; rw [if_pos (by omega)]
  have h64 : b.length = 64 := by omega
  refine (ropen_spec (strB b) (by rw [strB_size]; omega) w1).mono fun e w4 ⟨he4, hx4⟩ => ⟨_, _, he4, ?_⟩
  rw [eb]
  have h4 := h1.quiet hx4
  refine ⟨not_t fun ho => ?_, not_f fun ho => ?_⟩
  · refine bad w4 _ 80 h4 ⟨_, .refl _⟩ ?_
    unfold decPg; rw [if_neg (by omega), if_pos ho]
  have hop : (openB b).1 = b.take 60 := by
    unfold openB at ho ⊢
    rw [h64] at ho ⊢
    rw [if_neg (by omega)] at ho ⊢
    split at ho
    · rename_i hq; rw [if_pos hq]
    · cases ho
  rw [hop]
  have hl60 : (b.take 60).length = 60 := by rw [List.length_take]; omega
  have e4 : (ByteArray.mk #[82, 86, 84, 66]) = strB magB := rfl
  rw [e4]
  have s0 := slice_to (P := Tryd.prog) (t := 9) (k := .i64) (s := strB (b.take 60)) (hi := 4) (w := w4) (by kernel_rfl) (by omega) (by rw [strB_size, hl60]; omega)
  rw [strB_extract, List.drop_zero] at s0
  have hpre : (b.take 60).take ((4 : Int).toNat - 0) = b.take 4 := by rw [List.take_take]; rfl
  rw [hpre] at s0
  refine ⟨_, w4, s0, ?_⟩
  rw [strB_toList, strB_toList]
  refine ⟨fun hne => ?_, fun heq => ?_⟩
  · have hm : b.take 4 ≠ magB := by simpa using hne
    refine bad w4 _ 81 h4 ⟨_, .refl _⟩ ?_
    unfold decPg; rw [if_neg (by omega), if_neg (by rw [ho]; decide), if_pos hm]
  have hm : b.take 4 = magB := by simpa using heq
  refine ⟨fun vs w' => w' = w4 ∧ ∃ i : Nat, vs = [.int .i64 (i : Int)] ∧ 20 ≤ i ∧ i ≤ 60 ∧ ∀ j, 20 ≤ j → j < i → (b.take 60).getD j 0 = 0, fun vs _ => match vs with | [.int _ i] => (60 - i).toNat | _ => 0, ⟨rfl, 20, rfl, by omega, by omega, fun j h1 h2 => by omega⟩, ?_⟩
  rintro vs w10 ⟨rfl, i, rfl, hi20, hi60, hz⟩
  have hidx := drop_idx hl60
  refine ⟨_, rfl, dec_t fun hlt => ?_, dec_f fun hge => ?_⟩
  · rw [strB_size, hl60] at hlt
    have hlt : i < 60 := by omega
    have hix := index_str (P := Tryd.prog) (t := 9) (k := .i64) (n := (i : Int)) (s := strB (b.take 60)) (w := w10) (by kernel_rfl) (by omega) (by rw [strB_size, hl60]; omega)
    rw [Int.toNat_natCast] at hix
    refine ⟨(((b.take 60).getD i 0).toNat : Int), w10, hix, bne_t fun hne => ?_, bne_f fun heq => ?_⟩
    · refine bad w10 _ 1 h4 ⟨_, .refl _⟩ ?_
      unfold decPg
      rw [if_neg (by omega), if_neg (by rw [ho]; decide), if_neg (by simpa using hm), if_pos]
      intro hh
      have := hh _ ((hidx _).2 ⟨i, by omega, hlt, rfl⟩)
      rw [this] at hne
      exact hne rfl
    · refine ⟨⟨rfl, i + 1, ?_, by omega, by omega, fun j h1 h2 => ?_⟩, ?_⟩
      · rw [wrap64 _ (by omega) (by omega)]; rfl
      · rcases Nat.lt_or_ge j i with h | h
        · exact hz j h1 h
        · obtain rfl : j = i := by omega
          exact UInt8.toNat_inj.1 (by simpa using heq)
      · show ((60 : Int) - IntKind.i64.wrap ((i : Int) + 1)).toNat < ((60 : Int) - (i : Int)).toNat
        rw [wrap64 _ (by omega) (by omega)]; omega
  rw [strB_size, hl60] at hge
  have hall : ∀ x ∈ (b.take 60).drop 20, x = 0 := fun x hx => by
    obtain ⟨j, h1, h2, rfl⟩ := (hidx x).1 hx
    exact hz j h1 (by omega)
  have hdec : decPg b = (⟨leN ((b.drop 4).take 8), (b.drop 12).take 8⟩, 0) := by
    unfold decPg; rw [if_neg (by omega), if_neg (by rw [ho]; decide), if_neg (by simpa using hm), if_neg (fun hn => hn hall)]
  have s2 := slice_mid (P := Tryd.prog) (t := 9) (k := .i64) (k' := .i64) (s := strB (b.take 60)) (lo := 4) (hi := 12) (w := w10) (by kernel_rfl) (by omega) (by omega) (by rw [strB_size, hl60]; omega)
  rw [strB_extract] at s2
  have e2 : (((b.take 60).drop (4 : Int).toNat).take ((12 : Int).toNat - (4 : Int).toNat)) = (b.drop 4).take 8 := take_mid b 4 8 (by omega)
  rw [e2] at s2
  refine ⟨_, w10, s2, Alloc.t h4 fun k38 w15 h15 => ?_⟩
  have h15 : T [] w w15 (rowP 3 1 (some k38) 1 1 (ints [8]) :: [blk k2 (pgC pgZ) 30]) := blk_row h15 rfl rfl (by decide)
  have hl8 : ((b.drop 4).take 8).length = 8 := by rw [List.length_take, List.length_drop]; omega
  refine (rdecode_spec (ws := [8]) wid8 (s := strB ((b.drop 4).take 8)) (by rw [strB_size, hl8]; rfl) h15 (g2 := some k38) (n2 := 1) (c2 := 1) rfl (by repeat (first | exact List.Mem.head _ | refine List.Mem.tail _ ?_))).mono fun e w16 ⟨g39, c39, he16, h16⟩ => ⟨_, _, _, _, he16, ?_⟩
  have e8 : decP (strB ((b.drop 4).take 8)).data.toList [8] = [leN ((b.drop 4).take 8)] := by
    show [leN (((b.drop 4).take 8).take 8)] = _
    rw [List.take_take, Nat.min_self]
  rw [e8] at h16
  obtain ⟨b39, rfl⟩ := rowP.pos (h16.says List.mem_cons_self) (by decide)
  have h16 : T [] w w16 (rowP 22 1 (some b39) 1 c39 (u64s [leN ((b.drop 4).take 8)]) :: rowP 3 1 (some k38) 1 1 (ints [8]) :: [blk k2 (pgC pgZ) 30]) := h16
  refine ⟨fun w' => ∃ Δ, rowP 22 1 (some b39) 1 c39 (u64s [leN ((b.drop 4).take 8)]) ∈ Δ ∧ T [] w w' Δ, ⟨_, (by repeat (first | exact List.Mem.head _ | refine List.Mem.tail _ ?_)), h16.drew⟩, ⟨b39, 0, none⟩, rfl, by omega, by simp, (leN ((b.drop 4).take 8) : Int), fun w' ⟨Δ, hm', h'⟩ => rowP.cell (k := 0) (h'.says hm') rfl, ?_⟩
  refine ⟨strB ((b.drop 12).take 8), fun w' _ => ?_, ?_⟩
  · have s3 := slice_mid (P := Tryd.prog) (t := 9) (k := .i64) (k' := .i64) (s := strB (b.take 60)) (lo := 12) (hi := 20) (w := w') (by kernel_rfl) (by omega) (by omega) (by rw [strB_size, hl60]; omega)
    rw [strB_extract] at s3
    have e3 : (((b.take 60).drop (12 : Int).toNat).take ((20 : Int).toNat - (12 : Int).toNat)) = (b.drop 12).take 8 := take_mid b 12 8 (by omega)
    rw [e3] at s3
    exact s3
  refine St.t (c := pgC pgZ) (c' := #[.int .u64 (leN ((b.drop 4).take 8) : Int), .string (ByteArray.mk #[])]) h16.drew (by repeat (first | exact Turn.head | apply Turn.tail)) (show 0 < 2 by decide) rfl rfl fun w19 h19 => ?_
  refine St.t (c := #[.int .u64 (leN ((b.drop 4).take 8) : Int), .string (ByteArray.mk #[])]) (c' := pgC ⟨leN ((b.drop 4).take 8), (b.drop 12).take 8⟩) h19 (by repeat (first | exact Turn.head | apply Turn.tail)) (show 1 < 2 by decide) rfl rfl fun w20 h20 => ⟨⟨_, (by repeat (first | exact List.Mem.head _ | refine List.Mem.tail _ ?_)), h20⟩, _, _, ⟨h20.ld (b := k2) (c := pgC ⟨leN ((b.drop 4).take 8), (b.drop 12).take 8⟩) (by repeat (first | exact List.Mem.head _ | refine List.Mem.tail _ ?_)) rfl, h20.ld (b := k2) (c := pgC ⟨leN ((b.drop 4).take 8), (b.drop 12).take 8⟩) (i := 1) (by repeat (first | exact List.Mem.head _ | refine List.Mem.tail _ ?_)) rfl⟩, ?_, h20.chg.ext⟩
  rw [hdec]; rfl
end Go.Proofs.YtmipjkalfodcpaaDoor
end
section
/-! law11: PagesTells. -/
namespace Go.Proofs.YtmipjkalfodcpaaDoor
open Go.Sh Go.RowKit
set_option linter.unusedVariables false
set_option linter.unusedSimpArgs false
set_option maxRecDepth 20000
set_option maxHeartbeats 1000000
theorem St2.t {F : List Nat} {w0 w : World} {Γ : List A} {k : Nat} {t : TypeId} {x y : PgV} {K : World → Prop} (hT : T F w0 w (blk k (pgC x) t :: Γ)) (hK : ∀ w', T F w0 w' (blk k (pgC y) t :: Γ) → K w') :
    St ⟨k, 0, none⟩ (.int .u64 (y.ev : Int)) w fun w1 => St ⟨k, 1, none⟩ (.string (strB y.bits)) w1 K :=
  St.t (c := pgC x) (c' := #[.int .u64 (y.ev : Int), .string (strB x.bits)]) hT .head (show 0 < 2 by decide) rfl rfl fun w1 h1 => St.t (c' := pgC y) h1 .head (show 1 < 2 by decide) rfl rfl fun w2 h2 => hK w2 h2
theorem T.pg {F : List Nat} {w0 w : World} {Γ : List A} {k : Nat} {t : TypeId} {x : PgV} (hT : T F w0 w Γ) (hm : blk k (pgC x) t ∈ Γ) {Q : Int → ByteArray → Prop} (hQ : Q (x.ev : Int) (strB x.bits)) :
    ∃ a : Int, ∃ s : ByteArray, (w.cell? ⟨k, 0, none⟩ = some (.int .u64 a) ∧ w.cell? ⟨k, 1, none⟩ = some (.string s)) ∧ Q a s :=
  ⟨_, _, ⟨hT.ld (b := k) (c := pgC x) hm rfl, hT.ld (b := k) (c := pgC x) (i := 1) hm rfl⟩, hQ⟩
theorem tellsP_law {n : Int} {s b : ByteArray} {w : World} (hn : 0 ≤ n ∧ n < 18446744073709551616) :
    Ret Tryd.prog 3 #[.agg #[.int .u64 n, .string s], .string b] w (.bool true) := by
  refine ret_of (revetmentlaw11_PagesTells_calls ?_)
  unfold revetmentlaw11_PagesTells
  obtain ⟨p, rfl, rfl, he⟩ : ∃ p : PgV, n = (p.ev : Int) ∧ s = strB p.bits ∧ p.ev < 2 ^ 64 := ⟨⟨n.toNat, s.data.toList⟩, by show n = ((n.toNat : Nat) : Int); omega, (strB_list s).symm, Nat.lt_of_lt_of_eq (show n.toNat < 18446744073709551616 by omega) (by decide)⟩
  refine Alloc.t (T.nil w) fun k2 w1 h1 => ⟨dec_t fun _ => pshown_end h1.chg.ext, dec_f fun hb2 => ⟨_, h1.ld (b := k2) (c := pgC p) (i := 1) (by repeat (first | exact List.Mem.head _ | refine List.Mem.tail _ ?_)) rfl, dec_t fun _ => pshown_end h1.chg.ext, dec_f fun hb1 => ?_⟩⟩
  rw [strB_size] at hb1
  refine (pshown_spec w1).mono fun e w4 ⟨he4, hx4⟩ => ⟨_, he4, no rfl ?_⟩
  have h4 := h1.quiet hx4
  refine T.pg h4 (k := k2) (x := p) (by repeat (first | exact List.Mem.head _ | refine List.Mem.tail _ ?_)) ?_
  refine (pencode_spec he (by omega) w4).mono fun e w6 ⟨he6, hx6⟩ => ⟨_, _, he6, ?_⟩
  have h6 := h4.quiet hx6
  refine T.pg h6 (k := k2) (x := p) (by repeat (first | exact List.Mem.head _ | refine List.Mem.tail _ ?_)) ?_
  refine (rpencode_spec he (by omega) w6).mono fun e w7 ⟨he7, hx7⟩ => ⟨_, _, he7, ?_⟩
  have h7 := h6.quiet hx7
  refine (pdecode_spec b (by omega) w7).mono fun e w8 ⟨he8, hx8⟩ => ⟨_, _, _, he8, ?_⟩
  have h8 := h7.quiet hx8
  generalize hd : decPg b.data.toList = d
  refine Alloc.t h8 fun k9 w9 h9 => St2.t (x := pgZ) (y := d.1) h9 fun w11 h11 => ?_
  refine (rpdecode_spec b (by omega) w11).mono fun e w12 ⟨he12, hx12⟩ => ⟨_, _, _, he12, ?_⟩
  have h12 := h11.quiet hx12
  rw [hd]
  refine Alloc.t h12 fun k11 w13 h13 => St2.t (x := pgZ) (y := d.1) h13 fun w15 h15 => ?_
  refine no (by simp) (no (by simp) ?_)
  refine T.pg h15 (k := k9) (x := d.1) (by repeat (first | exact List.Mem.head _ | refine List.Mem.tail _ ?_)) (T.pg h15 (k := k11) (x := d.1) (by repeat (first | exact List.Mem.head _ | refine List.Mem.tail _ ?_)) ?_)
  refine ⟨_, w15, rneq_pg d.1 d.1 (.tmp 58) (.tmp 59) w15, no (by rw [decide_eq_true rfl]; rfl) (no (by simp) ?_)⟩
  by_cases hl8 : p.bits.length = 8
  rotate_left
  · have ee : encPgF p = ([], 1) := if_neg hl8
    rw [ee]
    exact yes rfl ⟨by show Value.bool ((strB []).toList == (strB []).toList) = _; rw [beq_self_eq_true], h15.chg.ext⟩
  have ee : encPgF p = (encPg p, 0) := if_pos hl8
  rw [ee]
  refine no rfl ?_
  refine (pdecode_spec (strB (encPg p)) (by rw [strB_size, encPg_len hl8]; decide) w15).mono fun e w17 ⟨he17, hx17⟩ => ⟨_, _, _, he17, ?_⟩
  have h17 := h15.quiet hx17
  have eb : (strB (encPg p)).data.toList = encPg p := rfl
  rw [eb, decPg_enc hl8 he]
  refine Alloc.t h17 fun k13 w18 h18 => St2.t (x := pgZ) (y := p) h18 fun w20 h20 => ?_
  refine T.pg h20 (k := k13) (x := p) (by repeat (first | exact List.Mem.head _ | refine List.Mem.tail _ ?_)) (T.pg h20 (k := k2) (x := p) (by repeat (first | exact List.Mem.head _ | refine List.Mem.tail _ ?_)) ?_)
  exact ⟨_, w20, eql_pg p p (.tmp 76) (.tmp 77) w20, yes (decide_eq_true rfl) ⟨rfl, h20.chg.ext⟩⟩
end Go.Proofs.YtmipjkalfodcpaaDoor
end
section
/-! A law's row: slices of structs. -/
namespace Go.Sh
open Go.ChangeShapes Go.WideShapes Go.ChangeAt Go.RowKit
set_option linter.unusedVariables false
mutual
/-- the one-cell parts of a type: which type, and where -/
def leaves (P : Program) : Nat → TypeId → Option (List (TypeId × Nat × Nat))
  | 0, _ => none
  | d + 1, t => match P.underlying t with
    | some (.struct fs) => leavesF P d (P.cellsOf t) fs.toList
    | some (.array n e) => if n ≤ 12 && n * P.cellsOf e == P.cellsOf t then (leaves P d e).map fun l => (List.range n).flatMap fun i => l.map fun x => (x.1, i * P.cellsOf e + x.2.1, x.2.2) else none
    | some _ => some [(t, 0, P.cellsOf t)]
    | none => none
def leavesF (P : Program) : Nat → Nat → List Field → Option (List (TypeId × Nat × Nat))
  | _, _, [] => some []
  | 0, _, _ => none
  | d + 1, C, f :: fs => if f.offset + P.cellsOf f.type ≤ C then match leaves P d f.type, leavesF P d C fs with
    | some a, some b => some (a.map (fun x => (x.1, f.offset + x.2.1, x.2.2)) ++ b)
    | _, _ => none else none
end
section
variable {P : Program} {H : Type} {enc : TypeId × Value → H} {w : World} {sp : Nat → Bool}
def LeafAt (enc : TypeId × Value → H) (P : Program) (w : World) (sp : Nat → Bool) (cs : List Value) (x : TypeId × Nat × Nat) : Prop := x.2.1 + x.2.2 ≤ cs.length ∧ ∃ n y, DataW.trod enc P w 0 sp true n x.1 ((cs.drop x.2.1).take x.2.2) = some y
theorem LeafAt.sub {cs : List Value} {o n : Nat} {x : TypeId × Nat × Nat} (hn : o + n ≤ cs.length) (h : LeafAt enc P w sp ((cs.drop o).take n) x) : LeafAt enc P w sp cs (x.1, o + x.2.1, x.2.2) := by
  obtain ⟨h1, m, y, h2⟩ := h
  rw [List.length_take, List.length_drop] at h1
  refine ⟨?_, m, y, ?_⟩
  · show o + x.2.1 + x.2.2 ≤ _; omega
  rw [List.drop_take, List.drop_drop, List.take_take] at h2
  show DataW.trod enc P w 0 sp true m x.1 ((cs.drop (o + x.2.1)).take x.2.2) = some y
  rwa [show min x.2.2 (n - x.2.1) = x.2.2 by omega] at h2
mutual
theorem leaves_trod : ∀ (d : Nat) (t : TypeId) (l : List (TypeId × Nat × Nat)) (cs : List Value) (n : Nat) (y : DataW H × List MemPlace), leaves P d t = some l → cs.length = P.cellsOf t → DataW.trod enc P w 0 sp true n t cs = some y → ∀ x ∈ l, LeafAt enc P w sp cs x
  | 0, _, _, _, _, _, h, _, _ => by cases h
  | d + 1, t, l, cs, n, y, h, hl, hd => by
    unfold leaves at h
    split at h
    · rename_i fs hu
      obtain ⟨xs, m, _, _, _, hlen, hf⟩ := DataW.trod_struct hu hd
      exact leavesF_trod d (P.cellsOf t) fs.toList l cs m h hl fun f hm => by
        obtain ⟨i, hi⟩ := List.mem_iff_getElem?.1 hm
        have h1 := hf i f (by simpa using hi)
        have : i < xs.length := by rw [hlen]; have := (List.getElem?_eq_some_iff.1 hi).1; simpa using this
        rw [List.getElem?_eq_getElem this] at h1
        exact ⟨_, h1⟩
    · rename_i k e hu
      split at h
      · rename_i hc
        simp only [Bool.and_eq_true, decide_eq_true_eq, beq_iff_eq] at hc
        simp only [Option.map_eq_some_iff] at h
        obtain ⟨le, he, rfl⟩ := h
        obtain ⟨xs, m, _, _, _, hlen, hf⟩ := DataW.trod_array hu hd
        intro x hx
        simp only [List.mem_flatMap, List.mem_range, List.mem_map] at hx
        obtain ⟨i, hi, x0, hx0, rfl⟩ := hx
        have h1 := hf i hi
        rw [List.getElem?_eq_getElem (by omega)] at h1
        have hb : i * P.cellsOf e + P.cellsOf e ≤ cs.length := by
          rw [hl, ← hc.2]
          have : (i + 1) * P.cellsOf e ≤ k * P.cellsOf e := Nat.mul_le_mul_right _ hi
          rw [Nat.add_mul, Nat.one_mul] at this
          exact this
        exact LeafAt.sub hb (leaves_trod d e le _ m _ he (by rw [List.length_take, List.length_drop]; omega) h1 x0 hx0)
      · cases h
    · rename_i hu1 hu2 hu3
      cases h
      intro x hx
      obtain rfl := List.mem_singleton.1 hx
      refine ⟨by simp [hl], n, y, ?_⟩
      rw [List.drop_zero, ← hl, List.take_length]
      exact hd
    · cases h
theorem leavesF_trod : ∀ (d C : Nat) (fs : List Field) (l : List (TypeId × Nat × Nat)) (cs : List Value) (n : Nat), leavesF P d C fs = some l → cs.length = C → (∀ f ∈ fs, ∃ y, DataW.trod enc P w 0 sp true n f.type ((cs.drop f.offset).take (P.cellsOf f.type)) = some y) → ∀ x ∈ l, LeafAt enc P w sp cs x
  | _, _, [], l, _, _, h, _, _ => by
    cases l with
    | nil => intro x hx; cases hx
    | cons a l => unfold leavesF at h; cases h
  | 0, _, _ :: _, _, _, _, h, _, _ => by cases h
  | d + 1, C, f :: fs, l, cs, n, h, hl, hf => by
    unfold leavesF at h
    split at h
    · rename_i hc
      split at h
      · rename_i a b ha hb
        cases h
        intro x hx
        rcases List.mem_append.1 hx with hx | hx
        · obtain ⟨x0, hx0, rfl⟩ := List.mem_map.1 hx
          obtain ⟨y, hy⟩ := hf f List.mem_cons_self
          exact LeafAt.sub (by omega) (leaves_trod d f.type a _ n y ha (by rw [List.length_take, List.length_drop]; omega) hy x0 hx0)
        · exact leavesF_trod d C fs b cs n hb hl (fun g hg => hf g (List.mem_cons_of_mem _ hg)) x hx
      · cases h
    · cases h
end
theorem leaf_one {cs : List Value} {t : TypeId} {i : Nat} (h : LeafAt enc P w sp cs (t, i, 1)) : ∃ v n y, cs[i]? = some v ∧ DataW.trod enc P w 0 sp true n t [v] = some y := by
  obtain ⟨h1, n, y, h2⟩ := h
  have hi : i < cs.length := by simp only at h1; omega
  refine ⟨cs[i], n, y, List.getElem?_eq_getElem hi, ?_⟩
  have : (cs.drop i).take 1 = [cs[i]] := by
    rw [List.drop_eq_getElem_cons hi]; rfl
  rwa [this] at h2
theorem leaf_int {cs : List Value} {t : TypeId} {i : Nat} {k : IntKind} (ht : P.underlying t = some (.int k)) (h : LeafAt enc P w sp cs (t, i, 1)) : ∃ n : Int, cs[i]? = some (.int k n) ∧ (Lit.int k n).wf = true := by
  obtain ⟨v, n, y, h1, h2⟩ := leaf_one h
  obtain ⟨m, h3, _, h4⟩ := DataW.trod_int ht h2
  obtain rfl : v = .int k m := by simpa using h3
  exact ⟨m, h1, h4⟩
theorem leaf_bool {cs : List Value} {t : TypeId} {i : Nat} (ht : P.underlying t = some .bool) (h : LeafAt enc P w sp cs (t, i, 1)) : ∃ b : Bool, cs[i]? = some (.bool b) := by
  obtain ⟨v, n, y, h1, h2⟩ := leaf_one h
  obtain ⟨m, h3, _⟩ := DataW.trod_bool ht h2
  obtain rfl : v = .bool m := by simpa using h3
  exact ⟨m, h1⟩
theorem leaf_str {cs : List Value} {t : TypeId} {i : Nat} (ht : P.underlying t = some .string) (h : LeafAt enc P w sp cs (t, i, 1)) : ∃ s : ByteArray, cs[i]? = some (.string s) ∧ s.size ≤ maxLen := by
  obtain ⟨v, n, y, h1, h2⟩ := leaf_one h
  obtain ⟨m, h3, _, h4⟩ := DataW.trod_string ht h2
  obtain rfl : v = .string m := by simpa using h3
  exact ⟨m, h1, h4⟩
/-- bytes that a slice's value shows -/
theorem trod_u8s {t e : TypeId} {v : Value} {n : Nat} {y : DataW H × List MemPlace} (ht : P.underlying t = some (.slice e)) (he : P.underlying e = some (.int .u8)) (hc : P.cellsOf e = 1) (hf : DataW.trod enc P w 0 (fun _ => true) true n t [v] = some y) :
    ∃ (p : Option Addr) (c : Nat) (l : List UInt8), v = .slice p l.length c ∧ (l ≠ [] → ∃ a, p = some a) ∧ (∀ a, p = some a → ∀ j (s : UInt8), l[j]? = some s → w.cell? (a.add j) = some (.int .u8 s.toNat)) := by
  rcases open_ints ht he hc hf with ⟨h0, _⟩ | ⟨a, len, cap, ss, h0, h1, h2, h3, h4, h5, h6, h7⟩
  · obtain rfl : v = .slice none 0 0 := by simpa using h0
    exact ⟨none, 0, [], rfl, fun h => absurd rfl h, (fun a ha => by cases ha)⟩
  · obtain rfl : v = .slice (some a) len cap := by simpa using h0
    simp only [if_true] at h4
    refine ⟨some a, cap, (ss.take len).map fun n => UInt8.ofNat n.toNat, by rw [List.length_map, List.length_take]; congr 1; omega, fun _ => ⟨a, rfl⟩, fun a' ha' j s hs => ?_⟩
    cases ha'
    rw [List.getElem?_map, List.getElem?_take] at hs
    split at hs
    · cases hz : ss[j]? with
      | none => rw [hz] at hs; cases hs
      | some z =>
        rw [hz] at hs
        simp only [Option.map_some, Option.some.injEq] at hs
        have hj := (List.getElem?_eq_some_iff.1 hz).1
        have hw := u8_of (h7 z (List.mem_of_getElem? hz))
        rw [h6 j hj, List.getD_eq_getElem?_getD, hz]
        have : ((UInt8.ofNat z.toNat).toNat : Int) = z := by simp; omega
        rw [← hs, this]; rfl
    · cases hs
theorem leaf_u8s {cs : List Value} {t e : TypeId} {i : Nat} (ht : P.underlying t = some (.slice e)) (he : P.underlying e = some (.int .u8)) (hc : P.cellsOf e = 1) (h : LeafAt enc P w (fun _ => true) cs (t, i, 1)) :
    ∃ (p : Option Addr) (c : Nat) (l : List UInt8), cs[i]? = some (.slice p l.length c) ∧ (l ≠ [] → ∃ a, p = some a) ∧ (∀ a, p = some a → ∀ j (s : UInt8), l[j]? = some s → w.cell? (a.add j) = some (.int .u8 s.toNat)) := by
  obtain ⟨v, n, y, h1, h2⟩ := leaf_one h
  obtain ⟨p, c, l, rfl, h3⟩ := trod_u8s ht he hc h2
  exact ⟨p, c, l, h1, h3⟩
theorem cells_get {w : World} {a : Addr} {n : Nat} {cs : List Value} (h : w.cells? 0 a n = some cs) : cs.length = n ∧ ∀ k v, cs[k]? = some v → w.cell? (a.add k) = some v := by
  unfold World.cells? at h
  split at h
  · have hl : cs.length = n := by simpa using mapM_some_length h
    refine ⟨hl, fun k v hv => ?_⟩
    have hk : k < n := by have := (List.getElem?_eq_some_iff.1 hv).1; omega
    have h1 := mapM_some_get h k
    rw [hv] at h1
    simpa [hk] using h1
  · cases h
/-- a slice of structs: the cells of each one, and its parts -/
theorem open_rows {t e : TypeId} {v : Value} {d : DataW H} {ps : List MemPlace} {r : Reach} {b0 : Nat} {l : List (TypeId × Nat × Nat)} {dep C : Nat} (ht : P.underlying t = some (.slice e)) (hl : leaves P dep e = some l) (hC : P.cellsOf e = C) (hval : Value.okWide P w r b0 t v) (hd : DataW.Trod enc P w 0 (fun _ => true) true t v d ps) :
    ∃ (p : Option Addr) (len c : Nat), v = .slice p len c ∧ (len ≠ 0 → ∃ a, p = some a) ∧ ∀ a, p = some a → ∀ j, j < len → ∃ cs : List Value, cs.length = C ∧ (∀ k u, cs[k]? = some u → w.cell? ((a.add (j * C)).add k) = some u) ∧ ∀ x ∈ l, LeafAt enc P w (fun _ => true) cs x := by
  subst hC
  obtain ⟨a0, len, cap, rfl⟩ := okWide_slice ht hval
  obtain ⟨fuel, hf⟩ := hd
  rcases DataW.trod_slice ht hf with ⟨h0, _⟩ | ⟨a, len', cap', elems, rest, n, _, h0, _, hb, hle, hm, hlen, hel, _⟩
  · have : a0 = none ∧ len = 0 ∧ cap = 0 := by simpa [Value.cells] using h0
    obtain ⟨rfl, rfl, rfl⟩ := this
    exact ⟨none, 0, 0, rfl, fun h => absurd rfl h, (fun a ha => by cases ha)⟩
  · have : a0 = some a ∧ len = len' ∧ cap = cap' := by simpa [Value.cells] using h0
    obtain ⟨rfl, rfl, rfl⟩ := this
    refine ⟨some a, len, cap, rfl, fun _ => ⟨a, rfl⟩, fun a' ha' j hj => ?_⟩
    cases ha'
    have h1 := hel j hj
    rw [List.getElem?_eq_getElem (by omega)] at h1
    simp only [Option.bind_eq_some_iff] at h1
    obtain ⟨cs, hcs, ht2⟩ := h1
    obtain ⟨h2, h3⟩ := cells_get hcs
    exact ⟨cs, h2, h3, leaves_trod dep e l cs n _ hl h2 ht2⟩
theorem list_choice {α : Type} {Q : Nat → α → Prop} : ∀ (n : Nat), (∀ j, j < n → ∃ x, Q j x) → ∃ l : List α, l.length = n ∧ ∀ j x, l[j]? = some x → Q j x
  | 0, _ => ⟨[], rfl, fun j x h => by simp at h⟩
  | n + 1, h => by
    obtain ⟨l, hl, hq⟩ := list_choice n fun j hj => h j (by omega)
    obtain ⟨x, hx⟩ := h n (by omega)
    refine ⟨l ++ [x], by simp [hl], fun j y hy => ?_⟩
    rcases Nat.lt_or_ge j l.length with hj | hj
    · rw [List.getElem?_append_left hj] at hy; exact hq j y hy
    · rw [List.getElem?_append_right hj] at hy
      have : j = n := by have := (List.getElem?_eq_some_iff.1 hy).1; simp at this; omega
      subst this
      rw [hl, Nat.sub_self] at hy
      obtain rfl : x = y := by simpa using hy
      exact hx
end
end Go.Sh
end
section
/-! A law's row: slices of strings and of numbers, with their room. -/
namespace Go.Sh
open Go.ChangeShapes Go.WideShapes Go.ChangeAt Go.RowKit
set_option linter.unusedVariables false
section
variable {H : Type} {enc : TypeId × Value → H} {P : Program} {w : World} {r : Reach} {b0 : Nat} {t e : TypeId} {v : Value} {d : DataW H} {ps : List MemPlace}
theorem open_strs5 (ht : P.underlying t = some (.slice e)) (he : P.underlying e = some .string) (hc : P.cellsOf e = 1) (hval : Value.okWide P w r b0 t v) (hd : DataW.Trod enc P w 0 (fun _ => true) true t v d ps) :
    ∃ (p : Option Addr) (c : Nat) (l : List ByteArray), v = .slice p l.length c ∧ (l ≠ [] → ∃ a, p = some a) ∧ (∀ a, p = some a → ∀ j s, l[j]? = some s → w.cell? (a.add j) = some (.string s)) ∧ l.length ≤ c ∧ ∀ s ∈ l, s.size ≤ maxLen := by
  obtain ⟨a0, len, cap, rfl⟩ := okWide_slice ht hval
  obtain ⟨fuel, hf⟩ := hd
  rcases open_strings ht he hc hf with ⟨h0, -⟩ | ⟨a, len', cap', ss, h0, h1, h2, h3, h4, h5, h6, h7⟩
  · have : a0 = none ∧ len = 0 ∧ cap = 0 := by simpa [Value.cells] using h0
    obtain ⟨rfl, rfl, rfl⟩ := this
    exact ⟨none, 0, [], rfl, fun h => absurd rfl h, (fun a ha => by cases ha), by simp, fun s hs => by cases hs⟩
  · have : a0 = some a ∧ len = len' ∧ cap = cap' := by simpa [Value.cells] using h0
    obtain ⟨rfl, rfl, rfl⟩ := this
    simp only [if_true] at h4
    refine ⟨some a, cap, ss.take len, by rw [List.length_take]; congr 1; omega, fun _ => ⟨a, rfl⟩, fun a' ha' j s hs => ?_, by rw [List.length_take]; omega, fun s hs => h7 s (List.mem_of_mem_take hs)⟩
    cases ha'
    rw [List.getElem?_take] at hs
    split at hs
    · have hj := (List.getElem?_eq_some_iff.1 hs).1
      rw [h6 j hj, List.getD_eq_getElem?_getD, hs]; rfl
    · cases hs
theorem open_i64s (ht : P.underlying t = some (.slice e)) (he : P.underlying e = some (.int .i64)) (hc : P.cellsOf e = 1) (hval : Value.okWide P w r b0 t v) (hd : DataW.Trod enc P w 0 (fun _ => true) true t v d ps) :
    ∃ (p : Option Addr) (c : Nat) (l : List Int), v = .slice p l.length c ∧ (l ≠ [] → ∃ a, p = some a) ∧ (∀ a, p = some a → ∀ j x, l[j]? = some x → w.cell? (a.add j) = some (.int .i64 x)) ∧ l.length ≤ c ∧ ∀ x ∈ l, (Lit.int .i64 x).wf = true := by
  obtain ⟨a0, len, cap, rfl⟩ := okWide_slice ht hval
  obtain ⟨fuel, hf⟩ := hd
  rcases open_ints ht he hc hf with ⟨h0, -⟩ | ⟨a, len', cap', ss, h0, h1, h2, h3, h4, h5, h6, h7⟩
  · have : a0 = none ∧ len = 0 ∧ cap = 0 := by simpa [Value.cells] using h0
    obtain ⟨rfl, rfl, rfl⟩ := this
    exact ⟨none, 0, [], rfl, fun h => absurd rfl h, (fun a ha => by cases ha), by simp, fun x hx => by cases hx⟩
  · have : a0 = some a ∧ len = len' ∧ cap = cap' := by simpa [Value.cells] using h0
    obtain ⟨rfl, rfl, rfl⟩ := this
    simp only [if_true] at h4
    refine ⟨some a, cap, ss.take len, by rw [List.length_take]; congr 1; omega, fun _ => ⟨a, rfl⟩, fun a' ha' j s hs => ?_, by rw [List.length_take]; omega, fun x hx => h7 x (List.mem_of_mem_take hx)⟩
    cases ha'
    rw [List.getElem?_take] at hs
    split at hs
    · have hj := (List.getElem?_eq_some_iff.1 hs).1
      rw [h6 j hj, List.getD_eq_getElem?_getD, hs]; rfl
    · cases hs
end
end Go.Sh
end
section
/-! A law's row: a page; slices of numbers of 64 bits, and of truths. -/
namespace Go.Proofs.YtmipjkalfodcpaaDoor
open Go.ChangeShapes Go.WideShapes Go.ChangeAt Go.RowKit Go.Sh
set_option linter.unusedVariables false
set_option maxRecDepth 20000
theorem wf64 {a : Int} (h : (Lit.int .u64 a).wf = true) : 0 ≤ a ∧ a < 18446744073709551616 := by
  simp [Lit.wf, IntKind.min, IntKind.max, IntKind.bits, IntKind.signed] at h
  omega
theorem arrTwo {cs : Array Value} (h : cs.size = 2) {a b : Value} (h0 : cs.toList[0]? = some a) (h1 : cs.toList[1]? = some b) : cs = #[a, b] := by
  obtain ⟨l⟩ := cs
  match l, h with
  | [x, y], _ =>
    simp at h0 h1
    rw [h0, h1]
section
variable {H : Type} {enc : TypeId × Value → H} {w : World} {v : Value} {d : DataW H} {ps : List MemPlace} {r : Reach} {b0 : Nat}
theorem open_pg (hval : Value.okWide Tryd.prog w r b0 24 v) (hd : DataW.Trod enc Tryd.prog w 0 (fun _ => true) true 24 v d ps) :
    ∃ (n : Int) (s : ByteArray), v = .agg #[.int .u64 n, .string s] ∧ (0 ≤ n ∧ n < 18446744073709551616) ∧ s.size ≤ maxLen := by
  have hC : Tryd.prog.cellsOf 24 = 2 := by kernel_rfl
  obtain ⟨cs, rfl, h2⟩ : ∃ cs : Array Value, v = .agg cs ∧ cs.size = 2 := by
    obtain ⟨fs, ht⟩ : ∃ fs, Tryd.prog.underlying 24 = some (.struct fs) := ⟨Tryd.prog.fieldsOf 24, by kernel_rfl⟩
    simp only [Value.okWide, ht] at hval
    obtain ⟨cs, rfl, h2, _⟩ := hval
    exact ⟨cs, rfl, by rw [h2, hC]⟩
  obtain ⟨fuel, hf⟩ := hd
  have hl : leaves Tryd.prog 8 24 = some [(22, 0, 1), (9, 1, 1)] := by kernel_rfl
  have h := leaves_trod 8 24 _ cs.toList fuel _ hl (by rw [hC, Array.length_toList, h2]) hf
  obtain ⟨n0, e0, k0⟩ := leaf_int (by kernel_rfl) (h (22, 0, 1) (by simp))
  obtain ⟨s1, e1, k1⟩ := leaf_str (by kernel_rfl) (h (9, 1, 1) (by simp))
  exact ⟨n0, s1, by rw [arrTwo h2 e0 e1], wf64 k0, k1⟩
theorem open_u64s {t e : TypeId} {P : Program} (ht : P.underlying t = some (.slice e)) (he : P.underlying e = some (.int .u64)) (hc : P.cellsOf e = 1) (hval : Value.okWide P w r b0 t v) (hd : DataW.Trod enc P w 0 (fun _ => true) true t v d ps) :
    ∃ (p : Option Addr) (c : Nat) (l : List Nat), v = .slice p l.length c ∧ (l ≠ [] → ∃ a, p = some a) ∧ (∀ a, p = some a → ∀ j (x : Nat), l[j]? = some x → w.cell? (a.add j) = some (.int .u64 (x : Int))) ∧ ∀ x ∈ l, x < 2 ^ 64 := by
  obtain ⟨a0, len, cap, rfl⟩ := okWide_slice ht hval
  obtain ⟨fuel, hf⟩ := hd
  rcases open_ints ht he hc hf with ⟨h0, -⟩ | ⟨a, len', cap', ss, h0, h1, h2, h3, h4, h5, h6, h7⟩
  · have : a0 = none ∧ len = 0 ∧ cap = 0 := by simpa [Value.cells] using h0
    obtain ⟨rfl, rfl, rfl⟩ := this
    exact ⟨none, 0, [], rfl, fun h => absurd rfl h, (fun a ha => by cases ha), fun x hx => by cases hx⟩
  · have : a0 = some a ∧ len = len' ∧ cap = cap' := by simpa [Value.cells] using h0
    obtain ⟨rfl, rfl, rfl⟩ := this
    simp only [if_true] at h4
    refine ⟨some a, cap, (ss.take len).map Int.toNat, by rw [List.length_map, List.length_take]; congr 1; omega, fun _ => ⟨a, rfl⟩, fun a' ha' j s hs => ?_, fun x hx => ?_⟩
    · cases ha'
      rw [List.getElem?_map, List.getElem?_take] at hs
      split at hs
      · cases hsj : ss[j]? with
        | none => rw [hsj] at hs; cases hs
        | some y =>
          rw [hsj] at hs
          have hs : y.toNat = s := by simpa using hs
          have hj := (List.getElem?_eq_some_iff.1 hsj).1
          have hy := wf64 (h7 y (List.mem_of_getElem? hsj))
          rw [h6 j hj, List.getD_eq_getElem?_getD, hsj, ← hs]
          show some (Value.int .u64 y) = _
          congr 2
          omega
      · cases hs
    · obtain ⟨y, hy, rfl⟩ := List.mem_map.1 hx
      have := wf64 (h7 y (List.mem_of_mem_take hy))
      have e : (2 : Nat) ^ 64 = 18446744073709551616 := by decide
      omega
theorem open_boolL {t e : TypeId} {P : Program} (ht : P.underlying t = some (.slice e)) (he : P.underlying e = some .bool) (hc : P.cellsOf e = 1) (hl : leaves P 2 e = some [(e, 0, 1)]) (hval : Value.okWide P w r b0 t v) (hd : DataW.Trod enc P w 0 (fun _ => true) true t v d ps) :
    ∃ (p : Option Addr) (c : Nat) (l : List Bool), v = .slice p l.length c ∧ (l ≠ [] → ∃ a, p = some a) ∧ (∀ a, p = some a → ∀ j x, l[j]? = some x → w.cell? (a.add j) = some (.bool x)) := by
  obtain ⟨p, len, c, rfl, h1, h2⟩ := open_rows ht hl hc hval hd
  have key : ∀ j, j < len → ∃ x : Bool, ∀ a, p = some a → w.cell? (a.add j) = some (.bool x) := fun j hj => by
    cases hp : p with
    | none => exact ⟨false, fun a ha => by cases ha⟩
    | some a =>
      obtain ⟨cs, hcl, hcells, hleaf⟩ := h2 a hp j hj
      obtain ⟨b, hb⟩ := leaf_bool he (hleaf (e, 0, 1) (by simp))
      refine ⟨b, fun a' ha' => ?_⟩
      cases ha'
      have := hcells 0 _ hb
      rw [Nat.mul_one] at this
      simpa [Addr.add] using this
  obtain ⟨l, hll, hq⟩ := list_choice len key
  refine ⟨p, c, l, by rw [hll], fun hn => h1 fun h0 => hn (List.eq_nil_of_length_eq_zero (by omega)), fun a ha j x hx => hq j x hx a ha⟩
end
end Go.Proofs.YtmipjkalfodcpaaDoor
end
section
/-! A law's row: bytes as numbers. -/
namespace Go.Proofs.YtmipjkalfodcpaaDoor
open Go.ChangeShapes Go.WideShapes Go.ChangeAt Go.RowKit Go.Sh
theorem u8_of {a : Int} (h : (Lit.int .u8 a).wf = true) : 0 ≤ a ∧ a < 256 := by
  simp [Lit.wf, IntKind.min, IntKind.max, IntKind.bits, IntKind.signed] at h
  omega
end Go.Proofs.YtmipjkalfodcpaaDoor
end
section
/-! law11: PagesAll. -/
namespace Go.Proofs.YtmipjkalfodcpaaDoor
open Go.Sh Go.RowKit
set_option linter.unusedVariables false
set_option linter.unusedSimpArgs false
set_option maxRecDepth 20000
set_option maxHeartbeats 1000000
def boolsAt (w : World) (p : Option Addr) (l : List Bool) : Prop := (l ≠ [] → ∃ a, p = some a) ∧ ∀ a, p = some a → ∀ j x, l[j]? = some x → w.cell? (a.add j) = some (.bool x)
theorem boolsAt.get {w : World} {p : Option Addr} {l : List Bool} (h : boolsAt w p l) {n : Nat} (hn : n < l.length) : ∃ a, p = some a ∧ ∀ w', Ext w w' → w'.cell? (a.add (n * 1)) = some (.bool (l.getD n false)) := by
  obtain ⟨a, rfl⟩ := h.1 (fun e => by rw [e] at hn; simp at hn)
  refine ⟨a, rfl, fun w' hx => cell_ext hx ?_⟩
  rw [Nat.mul_one]
  exact h.2 a rfl n _ (by simp [List.getD, hn])
theorem die_u {p : Nat} {a : AD} {F : List Nat} {w0 w : World} {X : List A} {Φ : Ending → World → Prop} (h : Dr p a F w0 w X) (hk : ∀ w', Dr p a.die F w0 w' X → Φ (.returned (.tuple #[])) w') : Calls Tryd.prog 15 #[.pointer (some ⟨p, 0, none⟩)] w Φ :=
  (die_a h).mono fun e w' ⟨he, hd⟩ => by rw [he]; exact hk w' hd
theorem dead_put {a : AD} (h : a.dead = true) (i : Int) (s : ByteArray) : a.put i s = 40 := by
  unfold AD.put AD.may
  rw [h, if_pos rfl, if_pos (by decide)]
theorem dead_read {a : AD} (h : a.dead = true) (i : Int) : a.read i = (noB, 40) := by
  have : a.may i = 40 := by unfold AD.may; rw [h, if_pos rfl]
  unfold AD.read
  rw [this, if_pos (by decide)]
theorem savePg_dead {a : AD} (h : a.dead = true) {p : PgV} (hb : p.bits.length = 8) : savePg a p = (a, 40) := by
  unfold savePg
  rw [if_neg (by omega), dead_put h, if_pos (by decide)]
theorem loadPg_dead {a : AD} (h : a.dead = true) : loadPg a = (pgZ, 40) := by
  unfold loadPg
  rw [dead_read h, if_pos (by decide)]
/-- a new drive, alive or dead -/
def newA (b : Bool) : AD := if b = true then (AD.new 3).die else AD.new 3
theorem newA_few (b : Bool) (N : Nat) : (newA b).Few N := by
  unfold newA
  split
  · exact few_new 3 N
  · exact few_new 3 N
theorem newA_load (b : Bool) {p : PgV} (hb : p.bits.length = 8) (he : p.ev < 2 ^ 64) : loadPg (savePg (newA b) p).1 = if b = true then (pgZ, 40) else (p, 0) := by
  unfold newA
  cases b with
  | true =>
    rw [if_pos rfl, if_pos rfl, savePg_dead rfl hb]
    exact loadPg_dead rfl
  | false =>
    rw [if_neg (by decide), if_neg (by decide)]
    exact savePg_load (AD.On.new 3) (by omega) hb he
theorem newA_ok (b : Bool) (q : Nat) {p : PgV} (hb : p.bits.length = 8) : okPg p (some (q, newA b)) = !b := by
  show ((savePg (newA b) p).2 == 0) = _
  unfold newA
  cases b with
  | true => rw [if_pos rfl, savePg_dead rfl hb]; rfl
  | false => rw [if_neg (by decide), savePg_on (AD.On.new 3) (by omega) hb]; rfl
theorem cnt_two (p : PgV) (l : List Od) (x : Od) : cntPg p (l ++ [x, none]) (l ++ [x, none]).length = cntPg p l l.length + if okPg p x = true then 1 else 0 := by
  unfold cntPg
  rw [List.take_length, List.take_length, List.filter_append, List.length_append]
  congr 1
  have h0 : okPg p none = false := rfl
  cases hx : okPg p x <;> simp [List.filter, hx, h0]
theorem blks_two (l : List Od) (q : Nat) (a : AD) : ptrsV (blks (l ++ [some (q, a), none])) = ptrsV (blks l) ++ [.pointer (some ⟨q, 0, none⟩), .pointer none] := by
  simp [ptrsV, blks, odB, pv]
theorem dsK_two {l : List Od} {q : Nat} {a : AD} {F : List Nat} {w0 w : World} {X : List A} (H : Ow (star (drK q a) (dsK l)) F w0 w X) : Ow (dsK (l ++ [some (q, a), none])) F w0 w X := by
  have h1 : Ow (dsK (l ++ [some (q, a)])) F w0 w X := Ow.snoc (f := odK) (x := some (q, a)) H
  have h2 : Ow (star (odK none) (dsK (l ++ [some (q, a)]))) F w0 w X := by
    obtain ⟨Y, hY, hT⟩ := h1
    exact ⟨Y, ⟨[], Y, rfl, hY, rfl⟩, hT⟩
  have h3 := Ow.snoc (f := odK) (x := none) h2
  rw [List.append_assoc] at h3
  exact h3
/-- a new drive beside others -/
theorem Ow.newDrive {h : Kd} {F : List Nat} {w0 w : World} {X : List A} {n : Nat} (H : Ow h F w0 w X) (hn : 1 ≤ n ∧ n ≤ 4096) {Φ : Ending → World → Prop} (hk : ∀ q w', Ow (star (drK q (AD.new n)) h) F w0 w' X → Φ (.returned (.pointer (some ⟨q, 0, none⟩))) w') : Calls Tryd.prog 11 #[.int .i64 n] w Φ := by
  obtain ⟨Y, hY, hT⟩ := H
  refine new_u hT hn fun q w' h' => hk q w' ?_
  exact Ow.join hY (Dr.ow h')
theorem allP_law {n : Int} {s : ByteArray} {l : List Bool} {p2 : Option Addr} {c2 : Nat} {w : World} (hn : 0 ≤ n ∧ n < 18446744073709551616) (hs : s.size ≤ maxLen) (H : boolsAt w p2 l) :
    Ret Tryd.prog 5 #[.int .u64 n, .string s, .slice p2 l.length c2] w (.bool true) := by
  refine ret_of (revetmentlaw11_PagesAll_calls ?_)
  unfold revetmentlaw11_PagesAll
  obtain ⟨b, rfl⟩ : ∃ b, s = strB b := ⟨s.data.toList, (strB_list s).symm⟩
  obtain ⟨ev, rfl, hev⟩ : ∃ ev : Nat, n = (ev : Int) ∧ ev < 2 ^ 64 := ⟨n.toNat, by omega, Nat.lt_of_lt_of_eq (show n.toNat < 18446744073709551616 by omega) (by decide)⟩
  refine ⟨dec_t fun _ => pshown_end (.refl w), dec_f fun hb100 => ⟨dec_t fun _ => pshown_end (.refl w), dec_f fun hl10 => ?_⟩⟩
  rw [strB_size] at hb100
  refine (pshown_spec w).mono fun e w3 ⟨he3, hx3⟩ => ⟨_, he3, no rfl ?_⟩
  have h3 := (T.nil w).quiet hx3
  generalize hp : (⟨ev, bitsF b⟩ : PgV) = p
  have hbits : p.bits.length = 8 := by rw [← hp]; exact bitsF_len b
  have hpe : p.ev < 2 ^ 64 := by rw [← hp]; exact hev
  refine Alloc.t h3 fun k29 w5 h5 => ?_
  have h5 : T [] w w5 [rowP 39 1 (some k29) 0 0 (ptrsV (blks []))] := blk_row h5 rfl rfl (by decide)
  refine ⟨fun vs w' => ∃ (i : Nat) (ds : List Od) (g : Option Nat) (cap : Nat), vs = [.slice (ptr g) ds.length cap, .int .i64 (cntPg p ds ds.length : Int), .int .i64 (i : Int)] ∧ i ≤ l.length ∧ ds.length = 2 * i ∧ (∀ j, j < i → ∃ q, ds[2 * j]? = some (some (q, newA (l.getD j false)))) ∧ FewL ds 999999 ∧
      Ow (dsK ds) [] w w' [rowP 39 1 g ds.length cap (ptrsV (blks ds))], fun vs _ => match vs with | [_, _, .int _ i] => (l.length - i).toNat | _ => 0, ⟨0, [], some k29, 0, rfl, by omega, rfl, (fun j hj => by omega), (fun q a hq => by cases hq), Ow.nil_all h5⟩, ?_⟩
  rintro vs w6 ⟨i, ds, g, cap, rfl, hi, hdl, hds, hfew, h6⟩
  refine ⟨_, _, _, _, _, rfl, dec_t fun hlt => ?_, dec_f fun hge => ?_⟩
  · have hlt : i < l.length := by omega
    have hms : ((l.length : Int) - IntKind.i64.wrap ((i : Int) + 1)).toNat < ((l.length : Int) - (i : Int)).toNat := by rw [wrap64 _ (by omega) (by omega)]; omega
    have hnx : IntKind.i64.wrap ((i : Int) + 1) = ((i + 1 : Nat) : Int) := by rw [wrap64 _ (by omega) (by omega)]; omega
    have hcl := cntPg_le p ds ds.length
    refine Ow.newDrive h6 (n := 3) (by omega) fun q w7 h7 => ⟨_, rfl, no rfl ?_⟩
    obtain ⟨a2, rfl, hc2⟩ := H.get hlt
    refine Join.intro fun J hJ => ⟨a2, rfl, by omega, by omega, l.getD i false, by rw [Int.toNat_natCast]; exact hc2 w7 h7.ext, ?_⟩
    have next : ∀ w8, Ow (star (drK q (newA (l.getD i false))) (dsK ds)) [] w w8 [rowP 39 1 g ds.length cap (ptrsV (blks ds))] → J [.int .i64 (cntPg p (ds ++ [some (q, newA (l.getD i false)), none]) (ds ++ [some (q, newA (l.getD i false)), none]).length : Int)] w8 := by
      intro w8 h8
      refine hJ _ _ ⟨_, rfl, ?_⟩
      refine h8.alloc fun k49 w9 h9 => ?_
      obtain ⟨Y, hY, hT⟩ := h9
      obtain ⟨g', cap', w10, hr, h10⟩ := append_t (P := Tryd.prog) (t := 38) (ty := 38) (e := 39) (i := Tryd.t39) (z := .pointer none) (size := 1) #[false, false] (by kernel_rfl) (by kernel_rfl) (by kernel_rfl) (by kernel_rfl) (by rfl)
        hT (.tail .head) (a := ⟨k49, 0, none⟩) (m := 2) (c := 2) (news := [.pointer (some ⟨q, 0, none⟩), .pointer none]) rfl (fun j u hu => by
          rw [addr_add, Nat.zero_add]
          exact hT.ld List.mem_cons_self (by simpa using hu)) (fun u hu => by
          simp at hu
          rcases hu with rfl | rfl <;> rfl) (by simp only [maxLen]; omega) (by
          have : (Tryd.t39).bytes = 8 := by kernel_rfl
          rw [this]; omega)
      refine ⟨_, _, _, w10, hr, ⟨i + 1, ds ++ [some (q, newA (l.getD i false)), none], g', cap', ?_, by omega, ?_, ?_, ?_, ?_⟩, hms⟩
      · rw [hnx, List.length_append]; rfl
      · rw [List.length_append, hdl]; show 2 * i + 2 = _; omega
      · intro j hj
        rcases Nat.lt_or_ge j i with h | h
        · obtain ⟨q', hq'⟩ := hds j h
          exact ⟨q', by rw [List.getElem?_append_left (by omega)]; exact hq'⟩
        · obtain rfl : j = i := by omega
          exact ⟨q, by rw [← hdl, List.getElem?_append_right (Nat.le_refl _), Nat.sub_self]; rfl⟩
      · intro q' a' hm
        rcases List.mem_append.1 hm with hm | hm
        · exact hfew q' a' hm
        · simp at hm
          rw [hm.2]; exact newA_few _ _
      · refine dsK_two ⟨Y, hY, ?_⟩
        rw [blks_two, List.length_append]
        exact (h10.swap (.swap _ _ _)).drop
    refine ⟨fun hd => ?_, fun hd => ?_⟩
    · obtain ⟨Z, hZ, h7', hback⟩ := Ow.lend h7
      refine die_u (Ow.dr h7') fun w11 h11 => ⟨rfl, ?_⟩
      have h12 := hback (Dr.ow h11)
      have hnew : (AD.new 3).die = newA (l.getD i false) := by rw [hd]; rfl
      rw [hnew] at h12
      have hq := next w11 h12
      rw [cnt_two, newA_ok _ _ hbits, hd] at hq
      exact hq
    · have hnew : AD.new 3 = newA (l.getD i false) := by rw [hd]; rfl
      rw [hnew] at h7
      have hq := next w7 h7
      rw [cnt_two, newA_ok _ _ hbits, hd] at hq
      rw [wrap64 _ (by omega) (by omega)]
      exact hq
  have hie : i = l.length := by omega
  subst hie
  refine (bits_spec b (by omega) w6).mono fun e w12 ⟨he12, hx12⟩ => ⟨_, he12, ?_⟩
  have h12 := h6.quiet hx12
  have hall : allPg p ds = (ds.map (svPg p), (cntPg p ds ds.length : Int), if cntPg p ds ds.length = 0 then 60 else 0) := if_pos hbits
  have fall := pall_spec (p := p) (l := ds) (g := g) (cap := cap) (c := cap) (by omega) hpe (by omega) hfew h12 List.mem_cons_self
  have ep : pgC p = #[.int .u64 (ev : Int), .string (strB (bitsF b))] := by rw [← hp]; rfl
  rw [hall, ep] at fall
  refine fall.mono fun e w13 ⟨he13, h13⟩ => ⟨_, _, he13, ?_⟩
  have hcl := cntPg_le p ds ds.length
  generalize cntPg p ds ds.length = cn at hcl
  refine Join.intro fun J hJ => no (by simp) (no ?_ ?_)
  · by_cases h0 : cn = 0
    · rw [h0]; rfl
    · rw [if_neg h0, decide_eq_true (by omega)]; rfl
  have fin : J [] w13 := by
    refine hJ _ _ ⟨rfl, ?_⟩
    refine ⟨fun vs w' => ∃ j : Nat, vs = [.int .i64 (j : Int)] ∧ j ≤ l.length ∧ Ow (dsK (ds.map (svPg p))) [] w w' [rowP 39 1 g ds.length cap (ptrsV (blks ds))], fun vs _ => match vs with | [.int _ i] => (l.length - i).toNat | _ => 0, ⟨0, rfl, by omega, h13⟩, ?_⟩
    rintro vs w15 ⟨j, rfl, hj, h15⟩
    refine ⟨_, rfl, dec_t fun hlt => ?_, dec_f fun hge => ⟨rfl, h15.ext⟩⟩
    have hlt : j < l.length := by omega
    have hms : ((l.length : Int) - IntKind.i64.wrap ((j : Int) + 1)).toNat < ((l.length : Int) - (j : Int)).toNat := by rw [wrap64 _ (by omega) (by omega)]; omega
    have hnx : IntKind.i64.wrap ((j : Int) + 1) = ((j + 1 : Nat) : Int) := by rw [wrap64 _ (by omega) (by omega)]; omega
    have e2 : IntKind.i64.wrap (2 * (j : Int)) = ((2 * j : Nat) : Int) := by rw [wrap64 _ (by omega) (by omega)]; omega
    rw [e2]
    obtain ⟨q, hq⟩ := hds j hlt
    obtain ⟨b0, rfl, hcell⟩ := Ow.pcell h15 List.mem_cons_self (k := 2 * j) (by rw [blks_len]; omega)
    have hbq : (blks ds).getD (2 * j) none = some q := by rw [List.getD_eq_getElem?_getD, blks_get hq]; rfl
    rw [hbq] at hcell
    refine ⟨⟨b0, 0, none⟩, rfl, by omega, by omega, _, by rw [Int.toNat_natCast]; exact hcell, ?_⟩
    have hq' : (ds.map (svPg p))[2 * j]? = some (some (q, (savePg (newA (l.getD j false)) p).1)) := by rw [List.getElem?_map, hq]; rfl
    obtain ⟨Z, hZ, _⟩ := Ow.drive (k := 2 * j) h15 hq'
    refine (pload_spec hZ ((few_savePg (newA_few _ 0) p).mono (by decide)) (Nat.le_trans (hZ.read_size 2) (by decide))).mono fun e w16 ⟨he16, hx16⟩ => ⟨_, _, _, he16, ?_⟩
    rw [newA_load _ hbits hpe]
    have h16 := h15.quiet hx16
    obtain ⟨a2, rfl, hc2⟩ := H.get hlt
    generalize l.getD j false = dj at hc2
    refine h16.alloc fun k14 w17 h17 => h17.st (c := pgC pgZ) (c' := #[.int .u64 ((if dj = true then (pgZ, (40 : Int)) else (p, 0)).1.ev : Int), .string (ByteArray.mk #[])]) .head (show 0 < 2 by decide) rfl rfl fun w18 h18 => h18.st (c' := pgC (if dj = true then (pgZ, (40 : Int)) else (p, 0)).1) .head (show 1 < 2 by decide) rfl rfl fun w19 h19 => ?_
    refine ⟨fun w' => Ow (dsK (ds.map (svPg p))) [] w w' [blk k14 (pgC (if dj = true then (pgZ, (40 : Int)) else (p, 0)).1) 24, rowP 39 1 (some b0) ds.length cap (ptrsV (blks ds))], h19.drew, a2, rfl, by omega, by omega, dj, fun w' h' => by rw [Int.toNat_natCast]; exact hc2 w' h'.ext, no ?_ ⟨a2, rfl, by omega, by omega, dj, fun w' h' => by rw [Int.toNat_natCast]; exact hc2 w' h'.ext, ?_⟩⟩
    · cases dj <;> rfl
    cases dj with
    | true => exact no rfl ⟨⟨j + 1, by rw [hnx], by omega, h19.drew.dropX⟩, hms⟩
    | false =>
      refine yes rfl (no rfl ⟨_, fun w' h' => h'.ld (b := k14) (c := pgC p) (by repeat (first | exact List.Mem.head _ | refine List.Mem.tail _ ?_)) rfl, no ?_ ⟨_, fun w' h' => h'.ld (b := k14) (c := pgC p) (i := 1) (by repeat (first | exact List.Mem.head _ | refine List.Mem.tail _ ?_)) rfl, ?_⟩⟩)
      · rw [← hp]; simp
      refine (bits_spec b (by omega) _).mono fun e w20 ⟨he20, hx20⟩ => ⟨_, he20, h19.drew.quiet hx20, no ?_ ⟨⟨j + 1, by rw [hnx], by omega, (h19.drew.quiet hx20).dropX⟩, hms⟩⟩
      rw [← hp]; simp
  by_cases h0 : cn = 0
  · rw [if_pos h0]; exact yes rfl (no rfl fin)
  · rw [if_neg h0]; exact no rfl fin
end Go.Proofs.YtmipjkalfodcpaaDoor
end
section
/-! law11: PagesJoined. -/
namespace Go.Proofs.YtmipjkalfodcpaaDoor
open Go.Sh Go.RowKit
set_option linter.unusedVariables false
set_option linter.unusedSimpArgs false
set_option maxRecDepth 20000
set_option maxHeartbeats 1000000
theorem min3_run {P : Program} {k : IntKind} (ts : Array TypeId) (t : TypeId) (cs : Array Bool) (a b c : Int) (w : World) : ∃ m, (builtin .min ts t cs #[.int k a, .int k b, .int k c]).run P w = .ok (.value (.int k m)) w ∧ m ≤ a ∧ m ≤ b ∧ m ≤ c ∧ (m = a ∨ m = b ∨ m = c) := by
  refine ⟨if c < (if b < a then b else a) then c else (if b < a then b else a), by simp [builtin, Builtin.min_, Builtin.min2], ?_⟩
  split <;> split at * <;> omega
/-- what is in a byte is in another one -/
def subB (x y : UInt8) : Prop := x ||| y = y
theorem or_cancel (x y : UInt8) : x &&& ~~~(x ||| y) = 0 := by
  apply UInt8.toBitVec_inj.1
  show x.toBitVec &&& ~~~(x.toBitVec ||| y.toBitVec) = 0#8
  apply BitVec.eq_of_getLsbD_eq
  intro i hi
  simp only [BitVec.getLsbD_and, BitVec.getLsbD_not, BitVec.getLsbD_or, BitVec.getLsbD_zero]
  cases x.toBitVec.getLsbD i <;> simp
theorem u8_andNot (x y : UInt8) : bits2 .andNot .u8 (x.toNat : Int) (y.toNat : Int) = ((x &&& ~~~y).toNat : Int) := by
  have hx := x.toNat_lt; have hy := y.toNat_lt
  unfold bits2
  simp only [IntKind.bits]
  rw [show BitVec.ofInt 8 ((x.toNat : Nat) : Int) = x.toBitVec by apply BitVec.eq_of_toNat_eq; simp, show BitVec.ofInt 8 ((y.toNat : Nat) : Int) = y.toBitVec by apply BitVec.eq_of_toNat_eq; simp]
  have h2 := (x &&& ~~~y).toNat_lt
  have e : ((x &&& ~~~y).toNat : Nat) = (x.toBitVec &&& ~~~y.toBitVec).toNat := rfl
  show IntKind.u8.wrap (((x.toBitVec &&& ~~~y.toBitVec).toNat : Nat) : Int) = _
  rw [← e, wrap8]
  omega
theorem sub_no {x y : UInt8} (h : subB x y) : (bits2 .andNot .u8 (x.toNat : Int) (y.toNat : Int) != 0) = false := by
  have : x &&& ~~~y = 0 := by
    unfold subB at h
    rw [← h]; exact or_cancel x y
  rw [u8_andNot, this]; rfl
theorem subB.refl (x : UInt8) : subB x x := UInt8.or_self
theorem subB.left {x y : UInt8} (h : subB x y) (z : UInt8) : subB x (y ||| z) := by
  unfold subB at *
  rw [← UInt8.or_assoc, h]
theorem subB.in_right (x z : UInt8) : subB z (x ||| z) := by
  unfold subB
  rw [UInt8.or_comm x z, ← UInt8.or_assoc, UInt8.or_self]
theorem subB.both {x y : UInt8} (h : subB x y) (z : UInt8) : subB (x ||| z) (y ||| z) := by
  unfold subB at *
  rw [UInt8.or_assoc, UInt8.or_comm y z, ← UInt8.or_assoc z z y, UInt8.or_self, UInt8.or_comm z y, ← UInt8.or_assoc, h]
def subT (a b : List UInt8) : Prop := ∀ k, k < 8 → subB (a.getD k 0) (b.getD k 0)
/-- more drives, more bits -/
theorem jn_fold (n : Nat) : ∀ (m m' : List Od) (s s' : List UInt8 × Bool), m.length = m'.length → (∀ (j : Nat) (x : Od), m[j]? = some x → m'[j]? = some x ∨ ∀ s, jnPg n s x = s) → s.1.length = 8 → s'.1.length = 8 → subT s.1 s'.1 → subT (m.foldl (jnPg n) s).1 (m'.foldl (jnPg n) s').1
  | [], [], s, s', _, _, _, _, h => h
  | x :: m, x' :: m', s, s', hl, hq, h8, h8', h => by
    simp only [List.foldl_cons]
    refine jn_fold n m m' _ _ (by simpa using hl) (fun j y hy => by simpa using hq (j + 1) y (by simpa using hy)) (jnPg_len n h8 x) (jnPg_len n h8' x') ?_
    have grow : subT s.1 (jnPg n s' x').1 := by
      cases x' with
      | none => exact h
      | some y =>
        show subT s.1 (jnA n s' y.2).1
        unfold jnA
        split
        · exact h
        · intro k hk
          show subB _ ((orL s'.1 _).getD k 0)
          rw [orL_get _ _ hk]; exact (h k hk).left _
    rcases hq 0 x rfl with he | he
    · obtain rfl : x' = x := by simpa using he
      cases x' with
      | none => exact h
      | some y =>
        show subT (jnA n s y.2).1 (jnA n s' y.2).1
        unfold jnA
        split
        · exact h
        · intro k hk
          show subB ((orL s.1 _).getD k 0) ((orL s'.1 _).getD k 0)
          rw [orL_get _ _ hk, orL_get _ _ hk]; exact (h k hk).both _
    · rw [he s]; exact grow
theorem jn_grow (n : Nat) : ∀ (m : List Od) (s : List UInt8 × Bool), s.1.length = 8 → subT s.1 (m.foldl (jnPg n) s).1
  | [], s, _ => fun k _ => .refl _
  | x :: m, s, h8 => by
    have ih := jn_grow n m (jnPg n s x) (jnPg_len n h8 x)
    intro k hk
    have h1 : subB (s.1.getD k 0) ((jnPg n s x).1.getD k 0) := by
      cases x with
      | none => exact .refl _
      | some y =>
        show subB _ ((jnA n s y.2).1.getD k 0)
        unfold jnA
        split
        · exact .refl _
        · show subB _ ((orL s.1 _).getD k 0)
          rw [orL_get _ _ hk]; exact (subB.refl _).left _
    have h2 := ih k hk
    rw [List.foldl_cons]
    unfold subB at *
    rw [← h2, ← UInt8.or_assoc, h1]
/-- what one of them has is in -/
theorem jn_in (n : Nat) {m : List Od} {j q : Nat} {a : AD} (h : m[j]? = some (some (q, a))) (h0 : (loadPg a).2 = 0) (hn : n ≤ (loadPg a).1.ev) : subT (loadPg a).1.bits (jnPgs n m m.length).1 := by
  have hj := (List.getElem?_eq_some_iff.1 h).1
  have hs : jnPgs n m m.length = (m.drop (j + 1)).foldl (jnPg n) (jnPgs n m (j + 1)) := by
    unfold jnPgs
    rw [← List.foldl_append, List.take_length, List.take_append_drop]
  rw [hs, jnPgs_next n h]
  have h8 := jnPgs_len n m j
  generalize jnPgs n m j = s at h8
  have he : jnPg n s (some (q, a)) = (orL s.1 (loadPg a).1.bits, true) := by
    show jnA n s a = _
    unfold jnA
    rw [if_neg (by omega)]
  rw [he]
  have h1 := jn_grow n (m.drop (j + 1)) (orL s.1 (loadPg a).1.bits, true) (orL_len _ _)
  intro k hk
  have h2 := h1 k hk
  have h3 : subB ((loadPg a).1.bits.getD k 0) ((orL s.1 (loadPg a).1.bits).getD k 0) := by rw [orL_get _ _ hk]; exact subB.in_right _ _
  unfold subB at *
  rw [← h2]
  show _ ||| ((orL s.1 (loadPg a).1.bits).getD k 0 ||| _) = (orL s.1 (loadPg a).1.bits).getD k 0 ||| _
  rw [← UInt8.or_assoc, h3]
/-- the drives of a law: saved pages -/
def pgOf (ev : List Nat) (L : List (List UInt8)) (i : Nat) : PgV := ⟨ev.getD i 0, bitsF (L.getD i [])⟩
def svA (p : PgV) : AD := (savePg (AD.new 3) p).1
theorem svA_load {p : PgV} (hb : p.bits.length = 8) (he : p.ev < 2 ^ 64) : loadPg (svA p) = (p, 0) := savePg_load (AD.On.new 3) (by omega) hb he
theorem svA_few (p : PgV) : (svA p).Few 1000000 := (few_savePg (few_new 3 0) p).mono (by decide)
theorem jn_dead (n : Nat) {a : AD} (h : a.dead = true) (q : Nat) (s : List UInt8 × Bool) : jnPg n s (some (q, a)) = s := by
  show jnA n s a = s
  unfold jnA
  rw [loadPg_dead h, if_pos (.inl (by decide))]
theorem u64sAt_get {w : World} {p : Option Addr} {l : List Nat} (h1 : l ≠ [] → ∃ a, p = some a) (h2 : ∀ a, p = some a → ∀ j (x : Nat), l[j]? = some x → w.cell? (a.add j) = some (.int .u64 (x : Int))) {n : Nat} (hn : n < l.length) : ∃ a, p = some a ∧ ∀ w', Ext w w' → w'.cell? (a.add (n * 1)) = some (.int .u64 ((l.getD n 0 : Nat) : Int)) := by
  obtain ⟨a, rfl⟩ := h1 (fun e => by rw [e] at hn; simp at hn)
  refine ⟨a, rfl, fun w' hx => cell_ext hx ?_⟩
  rw [Nat.mul_one]
  exact h2 a rfl n _ (by simp [List.getD, hn])
theorem strs_cells {w : World} {p : Option Addr} {L : List (List UInt8)} (h : strsAt w p (L.map strB)) {n : Nat} (hn : n < L.length) : ∃ a, p = some a ∧ ∀ w', Ext w w' → w'.cell? (a.add (n * 1)) = some (.string (strB (L.getD n []))) := by
  obtain ⟨a, rfl⟩ := h.1 (fun e => by
    have := congrArg List.length e
    simp at this
    rw [this] at hn; simp at hn)
  refine ⟨a, rfl, fun w' hx => cell_ext hx ?_⟩
  rw [Nat.mul_one]
  exact h.2 a rfl n _ (by simp [List.getD, hn])
/-- one more drive -/
theorem dsK_one {l : List Od} {q : Nat} {a : AD} {F : List Nat} {w0 w : World} {X : List A} (H : Ow (star (drK q a) (dsK l)) F w0 w X) : Ow (dsK (l ++ [some (q, a)])) F w0 w X := Ow.snoc (f := odK) (x := some (q, a)) H
theorem blks_one (l : List Od) (q : Nat) (a : AD) : ptrsV (blks (l ++ [some (q, a)])) = ptrsV (blks l) ++ [.pointer (some ⟨q, 0, none⟩)] := by
  simp [ptrsV, blks, odB, pv]
theorem joinP_law {l : List ByteArray} {ev : List Nat} {n d : Int} {p0 p1 : Option Addr} {c0 c1 : Nat} {w : World} (H : strsAt w p0 l) (H1 : (ev ≠ [] → ∃ a, p1 = some a) ∧ ∀ a, p1 = some a → ∀ j (x : Nat), ev[j]? = some x → w.cell? (a.add j) = some (.int .u64 (x : Int))) (hev : ∀ x ∈ ev, x < 2 ^ 64) (hn : 0 ≤ n ∧ n < 18446744073709551616) (hd : 0 ≤ d ∧ d < 256) :
    Ret Tryd.prog 4 #[.slice p0 l.length c0, .slice p1 ev.length c1, .int .u64 n, .int .u8 d] w (.bool true) := by
  refine ret_of (revetmentlaw11_PagesJoined_calls ?_)
  unfold revetmentlaw11_PagesJoined
  obtain ⟨L, rfl⟩ : ∃ L : List (List UInt8), l = L.map strB := ⟨l.map fun s => s.data.toList, by
    rw [List.map_map]
    have : (strB ∘ fun s : ByteArray => s.data.toList) = id := by funext s; exact strB_list s
    rw [this, List.map_id]⟩
  rw [List.length_map]
  obtain ⟨fr, rfl⟩ : ∃ fr : Nat, n = (fr : Int) := ⟨n.toNat, by omega⟩
  obtain ⟨m, hmin, hm1, hm2, hm3, hm4⟩ := min3_run (P := Tryd.prog) (k := .i64) #[3, 3, 3] 3 #[false, false, true] (L.length : Int) (ev.length : Int) 8 w
  obtain ⟨N, rfl⟩ : ∃ N : Nat, m = (N : Int) := ⟨m.toNat, by omega⟩
  refine ⟨_, w, hmin, Alloc.t (T.nil w) fun k24 w2 h2 => ?_⟩
  have h2 : T [] w w2 [rowP 39 1 (some k24) 0 0 (ptrsV (blks []))] := blk_row h2 rfl rfl (by decide)
  have hpg : ∀ i, (pgOf ev L i).bits.length = 8 ∧ (pgOf ev L i).ev < 2 ^ 64 := fun i => ⟨bitsF_len _, by
    unfold pgOf
    rcases getD_mem_or ev i 0 with h | h
    · exact hev _ h
    · rw [h]; show 0 < 2 ^ 64; decide⟩
  refine ⟨fun vs w' => ∃ (i : Nat) (ds : List Od) (g : Option Nat) (cap : Nat), vs = [.slice (ptr g) ds.length cap, .int .i64 (i : Int)] ∧ i ≤ N ∧ ds.length = i ∧ (∀ j, j < i → (L.getD j []).length ≤ 100 ∧ ∃ q, ds[j]? = some (some (q, svA (pgOf ev L j)))) ∧
      Ow (dsK ds) [] w w' [rowP 39 1 g ds.length cap (ptrsV (blks ds))], fun vs _ => match vs with | [_, .int _ i] => (N - i).toNat | _ => 0, ⟨0, [], some k24, 0, rfl, by omega, rfl, (fun j hj => by omega), Ow.nil_all h2⟩, ?_⟩
  rintro vs w3 ⟨i, ds, g, cap, rfl, hi, hdl, hds, h3⟩
  refine ⟨_, _, _, _, rfl, dec_t fun hlt => ?_, dec_f fun hge => ?_⟩
  · have hlt : i < N := by omega
    have hms : ((N : Int) - IntKind.i64.wrap ((i : Int) + 1)).toNat < ((N : Int) - (i : Int)).toNat := by rw [wrap64 _ (by omega) (by omega)]; omega
    have hnx : IntKind.i64.wrap ((i : Int) + 1) = ((i + 1 : Nat) : Int) := by rw [wrap64 _ (by omega) (by omega)]; omega
    obtain ⟨a0, rfl, hc0⟩ := strs_cells H (n := i) (by omega)
    obtain ⟨a1, rfl, hc1⟩ := u64sAt_get H1.1 H1.2 (n := i) (by omega)
    refine ⟨a0, rfl, by omega, by omega, _, by rw [Int.toNat_natCast]; exact hc0 w3 h3.ext, dec_t fun _ => pshown_end h3.ext, dec_f fun h100 => ?_⟩
    rw [strB_size] at h100
    refine Ow.newDrive h3 (n := 3) (by omega) fun q w5 h5 => ⟨_, rfl, ?_⟩
    refine ⟨fun w' => Ext w w', h5.drew.ext, no rfl ⟨a1, rfl, by omega, by omega, _, fun w' h' => by rw [Int.toNat_natCast]; exact hc1 w' h', a0, rfl, by omega, by omega, _, fun w' h' => by rw [Int.toNat_natCast]; exact hc0 w' h', ?_⟩⟩
    refine (bits_spec (L.getD i []) (by omega) _).mono fun e w6 ⟨he6, hx6⟩ => ⟨_, he6, ?_⟩
    have h6 := h5.drew.quiet hx6
    refine ⟨h6.ext, ?_⟩
    obtain ⟨Z, hZ, h6', hback⟩ := Ow.lend h6
    have hps := hpg i
    refine (psave_d (Ow.dr h6') (few_new _ _) (p := pgOf ev L i) hps.2 (by rw [hps.1]; decide)).mono fun e w7 ⟨he7, h7⟩ => ⟨_, he7, ?_⟩
    rw [savePg_on (AD.On.new 3) (by omega) hps.1] at *
    have h7 : Dr q (svA (pgOf ev L i)) [] w w7 ([rowP 39 1 g ds.length cap (ptrsV (blks ds))] ++ Z) := by
      unfold svA
      rw [savePg_on (AD.On.new 3) (by omega) hps.1]; exact h7
    have h7 := dsK_one (hback (Dr.ow h7))
    refine ⟨h7.ext, no rfl ?_⟩
    obtain ⟨Y, hY, hT⟩ := h7
    refine push1_t (i := Tryd.t39) (z := .pointer none) (v := .pointer (some ⟨q, 0, none⟩)) (by kernel_rfl) (by kernel_rfl) (by kernel_rfl) (by kernel_rfl) (by kernel_rfl) (by kernel_rfl) hT .head rfl (by omega) fun g2 cap2 w8 h8 => ?_
    refine ⟨⟨i + 1, ds ++ [some (q, svA (pgOf ev L i))], g2, cap2, ?_, by omega, ?_, ?_, ?_⟩, hms⟩
    · rw [hnx, List.length_append]; rfl
    · rw [List.length_append, hdl]; rfl
    · intro j hj
      rcases Nat.lt_or_ge j i with h | h
      · obtain ⟨hl, q', hq'⟩ := hds j h
        exact ⟨hl, q', by rw [List.getElem?_append_left (by omega)]; exact hq'⟩
      · obtain rfl : j = i := by omega
        exact ⟨by omega, q, by rw [List.getElem?_append_right (by omega), hdl, Nat.sub_self]; rfl⟩
    · refine ⟨Y, hY, ?_⟩
      rw [blks_one, List.length_append]
      exact h8
  have hie : i = N := by omega
  subst hie
  have hfew : FewL ds 1000000 := fun q a hm => by
    obtain ⟨j, hj, he⟩ := List.getElem_of_mem hm
    obtain ⟨_, q', hq'⟩ := hds j (by omega)
    rw [List.getElem?_eq_getElem hj, he] at hq'
    simp at hq'
    rw [hq'.2]; exact svA_few _
  refine (pjoin_spec (n := fr) (by omega) hfew (c := cap) h3 List.mem_cons_self).mono fun e w10 ⟨he10, h10⟩ => ⟨_, _, he10, ?_⟩
  have hall : ∀ j, j < i → fr ≤ (pgOf ev L j).ev → subT (pgOf ev L j).bits (jnPgs fr ds ds.length).1 := fun j hj hfr => by
    obtain ⟨_, q', hq'⟩ := hds j hj
    have := jn_in fr hq' (by rw [svA_load (hpg j).1 (hpg j).2]) (by rw [svA_load (hpg j).1 (hpg j).2]; exact hfr)
    rw [svA_load (hpg j).1 (hpg j).2] at this
    exact this
  have l1 := jnPgs_len fr ds ds.length
  refine Join.intro fun J hJ => ?_
  have tail : ∀ (ds2 : List Od) (w11 : World), ds2.length = ds.length → blks ds2 = blks ds → FewL ds2 1000000 → subT (jnPgs fr ds2 ds2.length).1 (jnPgs fr ds ds.length).1 → (∀ j, j < i → fr ≤ (pgOf ev L j).ev → (0 < i → (j : Int) ≠ Int.tmod (IntKind.i64.wrap d) (i : Int)) → subT (pgOf ev L j).bits (jnPgs fr ds2 ds2.length).1) →
      Ow (dsK ds2) [] w w11 [rowP 39 1 g ds.length cap (ptrsV (blks ds))] → J [] w11 := by
    intro ds2 w11 hl2 hb2 hf2 hsub hin2 h11
    refine hJ _ _ ⟨rfl, ?_⟩
    rw [← hb2, ← hl2] at h11
    rw [← hl2]
    refine (pjoin_spec (n := fr) (by omega) hf2 (c := cap) h11 List.mem_cons_self).mono fun e w12 ⟨he12, h12⟩ => ⟨_, _, he12, ?_⟩
    have l2 := jnPgs_len fr ds2 ds2.length
    have hx12 := h12.ext
    clear h12 h11 h10 h3 he12 he10
    rw [hl2] at l2 hsub hin2 ⊢
    generalize (jnPgs fr ds ds.length).1 = A1 at hall l1 hsub
    generalize (jnPgs fr ds2 ds.length).1 = A2 at hin2 l2 hsub
    refine no (by rw [strB_size, l1]; rfl) (no (by rw [strB_size, l2]; rfl) ?_)
    have ix : ∀ (S : List UInt8), S.length = 8 → ∀ k : Nat, k < 8 → ∀ w', (Instr.index 9 (.string (strB S)) (.int .i64 (k : Int))).run Tryd.prog w' = .ok (.int .u8 ((S.getD k 0).toNat : Int)) w' := fun S hS k hk w' => by
      have := index_str (P := Tryd.prog) (t := 9) (k := .i64) (n := (k : Int)) (s := strB S) (w := w') (by kernel_rfl) (by omega) (by rw [strB_size]; omega)
      rw [Int.toNat_natCast] at this
      exact this
    refine ⟨fun vs w' => ∃ k : Nat, vs = [.int .i64 (k : Int)] ∧ k ≤ 8 ∧ Ext w w', fun vs _ => match vs with | [.int _ i] => (8 - i).toNat | _ => 0, ⟨0, rfl, by omega, hx12⟩, ?_⟩
    rintro vs w13 ⟨k, rfl, hk, hx13⟩
    refine ⟨_, rfl, dec_t fun hlt => ?_, dec_f fun hge => pshown_end hx13⟩
    have hlt : k < 8 := by omega
    refine ⟨fun _ => True, trivial, _, fun w' _ => ix A2 l2 k hlt w', _, fun w' _ => ix A1 l1 k hlt w', no (sub_no (hsub k hlt)) ?_⟩
    refine ⟨fun vs w' => ∃ j : Nat, vs = [.int .i64 (j : Int)] ∧ j ≤ i ∧ Ext w w', fun vs _ => match vs with | [.int _ j] => (i - j).toNat | _ => 0, ⟨0, rfl, by omega, hx13.drew⟩, ?_⟩
    rintro vs w14 ⟨j, rfl, hj, hx14⟩
    refine ⟨_, rfl, dec_t fun hlt2 => ?_, dec_f fun hge2 => ⟨⟨k + 1, ?_, by omega, hx14⟩, ?_⟩⟩
    rotate_left
    · rw [wrap64 _ (by omega) (by omega)]; rfl
    · show ((8 : Int) - IntKind.i64.wrap ((k : Int) + 1)).toNat < ((8 : Int) - (k : Int)).toNat
      rw [wrap64 _ (by omega) (by omega)]; omega
    have hlt2 : j < i := by omega
    have hms : ((i : Int) - IntKind.i64.wrap ((j : Int) + 1)).toNat < ((i : Int) - (j : Int)).toNat := by rw [wrap64 _ (by omega) (by omega)]; omega
    have hnx : IntKind.i64.wrap ((j : Int) + 1) = ((j + 1 : Nat) : Int) := by rw [wrap64 _ (by omega) (by omega)]; omega
    obtain ⟨a0, rfl, hc0⟩ := strs_cells H (n := j) (by omega)
    obtain ⟨a1, rfl, hc1⟩ := u64sAt_get H1.1 H1.2 (n := j) (by omega)
    have h100 := (hds j hlt2).1
    have go : ∀ w', Ext w w' → (∃ k : Nat, ([.int .i64 (IntKind.i64.wrap ((j : Int) + 1))] : List Value) = [.int .i64 (k : Int)] ∧ k ≤ i ∧ Ext w w') := fun w' hx => ⟨j + 1, by rw [hnx], by omega, hx⟩
    refine ⟨fun w' => Ext w w', hx14.drew, a1, rfl, by omega, by omega, _, fun w' h' => by rw [Int.toNat_natCast]; exact hc1 w' h', ?_⟩
    refine ⟨dec_t fun hfr => ⟨a0, rfl, by omega, by omega, _, fun w' h' => by rw [Int.toNat_natCast]; exact hc0 w' h', ?_⟩, dec_f fun hfr => ⟨a1, rfl, by omega, by omega, _, fun w' h' => by rw [Int.toNat_natCast]; exact hc1 w' h', no (decide_eq_false (by omega)) ⟨go _ hx14.drew, hms⟩⟩⟩
    have hfr : fr ≤ (pgOf ev L j).ev := by show fr ≤ ev.getD j 0; omega
    refine (bits_spec (L.getD j []) (by omega) _).mono fun e w15 ⟨he15, hx15⟩ => ⟨_, he15, hx14.drew.trans hx15, _, fun w' _ => ix _ (bitsF_len _) k hlt w', _, fun w' _ => ix A1 l1 k hlt w', no (sub_no (hall j hlt2 hfr k hlt)) ⟨a1, rfl, by omega, by omega, _, fun w' h' => by rw [Int.toNat_natCast]; exact hc1 w' h', yes (decide_eq_true (by show (fr : Int) ≤ ((ev.getD j 0 : Nat) : Int); have : (pgOf ev L j).ev = ev.getD j 0 := rfl; omega)) ⟨by omega, bne_t fun hne => ?_, bne_f fun heq => ⟨go _ (hx14.drew.trans hx15), hms⟩⟩⟩⟩
    refine ⟨a0, rfl, by omega, by omega, _, fun w' h' => by rw [Int.toNat_natCast]; exact hc0 w' h', ?_⟩
    refine (bits_spec (L.getD j []) (by omega) _).mono fun e w16 ⟨he16, hx16⟩ => ⟨_, he16, (hx14.drew.trans hx15).trans hx16, _, fun w' _ => ix _ (bitsF_len _) k hlt w', _, fun w' _ => ix A2 l2 k hlt w', no (sub_no (hin2 j hlt2 hfr (fun _ => hne) k hlt)) ⟨go _ ((hx14.drew.trans hx15).trans hx16), hms⟩⟩
  by_cases h0 : i = 0
  · refine no (decide_eq_false (by omega)) (tail ds w10 rfl rfl hfew (fun k _ => .refl _) (fun j hj => by omega) h10)
  · refine yes (decide_eq_true (by omega)) ⟨by omega, ?_⟩
    have hx : ∃ x : Nat, Int.tmod (IntKind.i64.wrap d) (i : Int) = (x : Int) ∧ x < i := by
      refine ⟨d.toNat % i, ?_, Nat.mod_lt _ (by omega)⟩
      rw [wrap64 d (by omega) (by omega), Int.tmod_eq_emod_of_nonneg hd.1]
      push_cast
      rw [Int.toNat_of_nonneg hd.1]
    obtain ⟨x, hxe, hxi⟩ := hx
    obtain ⟨_, q, hq⟩ := hds x hxi
    obtain ⟨b0, rfl, hcell⟩ := Ow.pcell h10 List.mem_cons_self (k := x) (by rw [blks_len]; omega)
    have hbq : (blks ds).getD x none = some q := by rw [List.getD_eq_getElem?_getD, blks_get hq]; rfl
    rw [hbq] at hcell
    rw [hxe] at tail ⊢
    refine ⟨⟨b0, 0, none⟩, rfl, by omega, by omega, _, by rw [Int.toNat_natCast]; exact hcell, ?_⟩
    obtain ⟨Z, hZ, hback⟩ := Ow.drive (k := x) h10 hq
    refine die_u hZ fun w19 h19 => ⟨rfl, ?_⟩
    have h20 := hback h19
    have hl2 : (ds.set x (some (q, (svA (pgOf ev L x)).die))).length = ds.length := List.length_set
    have hget : ∀ j, j ≠ x → (ds.set x (some (q, (svA (pgOf ev L x)).die)))[j]? = ds[j]? := fun j hj => by rw [List.getElem?_set, if_neg (Ne.symm hj)]
    refine tail _ w19 hl2 (blks_set hq) (fun q' a' hm => ?_) ?_ (fun j hj hfr hne => ?_) h20
    · rcases List.mem_or_eq_of_mem_set hm with hm | hm
      · exact hfew q' a' hm
      · simp at hm
        rw [hm.2]; exact svA_few _
    · unfold jnPgs
      rw [List.take_length, List.take_length]
      refine jn_fold fr _ _ _ _ hl2 (fun j y hy => ?_) (by simp) (by simp) (fun k _ => .refl _)
      by_cases hj : j = x
      · subst hj
        rw [List.getElem?_set_self (by omega)] at hy
        cases hy
        exact .inr fun s => jn_dead fr rfl q s
      · rw [hget j hj] at hy
        exact .inl hy
    · have hjx : j ≠ x := fun e => hne (by omega) (by rw [e])
      obtain ⟨_, q', hq'⟩ := hds j hj
      have := jn_in fr (m := ds.set x (some (q, (svA (pgOf ev L x)).die))) (by rw [hget j hjx]; exact hq') (by rw [svA_load (hpg j).1 (hpg j).2]) (by rw [svA_load (hpg j).1 (hpg j).2]; exact hfr)
      rw [svA_load (hpg j).1 (hpg j).2] at this
      exact this
end Go.Proofs.YtmipjkalfodcpaaDoor
end
