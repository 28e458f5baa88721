import Derived.Test.YtdppllkjibfjcaaCr2
import Derived.Test.YtdppllkjibfjcaaRow
import Derived.Test.YtdppllkjibfjcaaLd1
import Derived.Laws.BytesArg
/-! crc: bytes, Seal, Open; rows of bytes as texts. -/
namespace Go.Proofs.Ytdppllkjibfjcaa
open Go.Sh Go.RowKit
set_option linter.unusedVariables false
set_option maxRecDepth 20000
set_option maxHeartbeats 1000000
/-- bytes, as cells -/
def bvals (l : List UInt8) : List Value := l.map fun b => .int .u8 b.toNat
theorem bvals_len (l : List UInt8) : (bvals l).length = l.length := List.length_map ..
theorem bvals_get (l : List UInt8) (i : Nat) : (bvals l)[i]? = l[i]?.map fun b => .int .u8 b.toNat := by simp [bvals]
/-- a text of bytes -/
abbrev strB (l : List UInt8) : ByteArray := ⟨l.toArray⟩
theorem strB_size (l : List UInt8) : (strB l).size = l.length := by show l.toArray.size = _; simp
theorem strB_list (s : ByteArray) : strB s.data.toList = s := by cases s; rfl
theorem strB_append (a b : List UInt8) : strB a ++ strB b = strB (a ++ b) := by
  apply ByteArray.ext
  rw [ByteArray.data_append]
  simp
theorem strB_inj {a b : List UInt8} (h : strB a = strB b) : a = b := by
  have := congrArg ByteArray.data h
  simpa using this
theorem strB_toList (l : List UInt8) : (strB l).toList = l := by rw [ByteArray.toList_eq]
theorem strB_extract (l : List UInt8) (i j : Nat) : (strB l).extract i j = strB ((l.drop i).take (j - i)) := by
  apply ByteArray.ext
  rw [ByteArray.data_extract]
  apply Array.toList_inj.1
  simp [List.take_drop]
/-- a row of bytes, as a text -/
theorem row_string {F : List Nat} {w0 w : World} {Γ : List A} {g : Option Nat} {n cap : Nat} {l : List UInt8} (hT : T F w0 w Γ) (hm : rowP 5 1 g n cap (bvals l) ∈ Γ) : (convert 30 9 (.slice (ptr g) n cap)).run Try.prog w = .ok (.string (strB l)) w := by
  have hs := hT.says hm
  have hl : l.length = n := by have := rowP.len hs; rw [bvals_len] at this; omega
  cases g with
  | none =>
    have h1 : cap = 0 := hs.2.2.2
    have h2 : n ≤ cap := hs.2.1
    obtain rfl : n = 0 := by omega
    subst h1
    have : l = [] := List.eq_nil_of_length_eq_zero (by omega)
    subst this
    exact run_convert_bytes_nil w 30 5 (by kernel_rfl) (by kernel_rfl) 0 0 _ (by kernel_rfl)
  | some b =>
    have h1 := run_convert_bytes_back (P := Try.prog) w 30 9 5 ⟨b, 0, none⟩ cap l (by kernel_rfl) (by kernel_rfl) (by kernel_rfl) (fun j hj => by
      rw [addr_add, Nat.zero_add]
      rw [rowP.cell hs (k := j) (v := .int .u8 (l[j]).toNat) (by rw [bvals_get, List.getElem?_eq_getElem hj]; rfl)])
    rw [hl] at h1
    exact h1
theorem blk_row {F : List Nat} {w0 w : World} {Γ : List A} {k : Nat} {e : TypeId} {c : Array Value} {xs : List Value} {n : Nat} (hT : T F w0 w (blk k c e :: Γ)) (hc : c.toList = xs) (hn : c.size = n) (hm : n ≤ 1000000000) : T F w0 w (rowP e 1 (some k) n n xs :: Γ) :=
  hT.weak rfl fun g hg => ⟨by rw [← hc, Array.length_toList, hn, Nat.mul_one], Nat.le_refl _, by simp only [maxLen]; omega, c, hg, by rw [hn, Nat.mul_one], by rw [hc, Nat.mul_one, ← hn, ← Array.length_toList, hc, List.take_length]⟩
theorem bytes_spec (n : B32) {F : List Nat} {w0 w : World} {Γ : List A} (hT : T F w0 w Γ) {Φ : Ending → World → Prop} (hΦ : ∀ k w', T F w0 w' (rowP 5 1 (some k) 4 4 (bvals (four n)) :: Γ) → Φ (.returned (.slice (some ⟨k, 0, none⟩) 4 4)) w') :
    Calls Try.prog 77 #[u32v n] w Φ := by
  refine (crc_bytes_calls (R := fun v w' => ∃ k, v = .slice (some ⟨k, 0, none⟩) 4 4 ∧ T F w0 w' (rowP 5 1 (some k) 4 4 (bvals (four n)) :: Γ)) ?_).mono fun e w' ⟨v, he, k, hv, h⟩ => by rw [he, hv]; exact hΦ k w' h
  unfold crc_bytes
  refine Alloc.t hT fun k w1 h1 => ⟨k, rfl, blk_row h1 ?_ rfl (by decide)⟩
  have hlt := n.isLt
  have hw : ∀ d : Nat, 0 < d → IntKind.u8.wrap ((n.toNat : Int) / (d : Int)) = ((UInt8.ofNat (n.toNat / d)).toNat : Int) := by
    intro d hd
    rw [wrap8]
    simp
  have h0 : IntKind.u8.wrap (n.toNat : Int) = ((UInt8.ofNat n.toNat).toNat : Int) := by rw [wrap8]; simp
  have hf : ∀ k : Nat, Int.fdiv (n.toNat : Int) (2 ^ k) = (n.toNat : Int) / ((2 ^ k : Nat) : Int) := by
    intro k
    rw [Int.fdiv_eq_ediv_of_nonneg _ (Int.le_of_lt (Int.pow_pos (by decide)))]
    push_cast
    rfl
  rw [hf 8, hf 16, hf 24, hw _ (by decide), hw _ (by decide), hw _ (by decide), h0]
  rfl
def padB (l : List UInt8) (n : Nat) : List UInt8 := l ++ List.replicate (n - l.length) 0
def sealB (l : List UInt8) (size : Nat) : List UInt8 := padB l (size - 4) ++ four (crcSum (padB l (size - 4)))
theorem four_len (n : B32) : (four n).length = 4 := rfl
theorem padB_len {l : List UInt8} {n : Nat} (h : l.length ≤ n) : (padB l n).length = n := by simp [padB]; omega
theorem sealB_len {l : List UInt8} {n : Nat} (h : l.length + 4 ≤ n) : (sealB l n).length = n := by
  unfold sealB
  rw [List.length_append, padB_len (by omega), four_len]; omega
def openB (s : List UInt8) : List UInt8 × Bool := if s.length < 4 then ([], false) else if four (crcSum (s.take (s.length - 4))) = s.drop (s.length - 4) then (s.take (s.length - 4), true) else ([], false)
theorem open_seal {l : List UInt8} {n : Nat} (h : l.length + 4 ≤ n) : openB (sealB l n) = (padB l (n - 4), true) := by
  have hl := sealB_len h
  have hp : (padB l (n - 4)).length = n - 4 := padB_len (by omega)
  have h1 : (sealB l n).take (n - 4) = padB l (n - 4) := by unfold sealB; exact List.take_left' hp
  have h2 : (sealB l n).drop (n - 4) = four (crcSum (padB l (n - 4))) := by unfold sealB; exact List.drop_left' hp
  unfold openB
  rw [hl, if_neg (by omega), h1, h2, if_pos rfl]
theorem open_spec (s : ByteArray) (hs : s.size ≤ 1000000000) (w : World) : Ret Try.prog 79 #[.string s] w (.tuple #[.string (strB (openB s.data.toList).1), .bool (openB s.data.toList).2]) := by
  refine ret_of (crc_Open_calls ?_)
  unfold crc_Open
  have hl : s.data.toList.length = s.size := Array.length_toList
  have wr : IntKind.i64.wrap ((s.size : Int) - 4) = (s.size : Int) - 4 := wrap64 _ (by omega) (by omega)
  rw [wr]
  refine ⟨fun w' => Ext w w', (Ext.refl w).drew, dec_t fun hlt => ⟨?_, (Ext.refl w).drew⟩, dec_f fun hge => ?_⟩
  · unfold openB
    rw [if_pos (by omega)]
  · have h4 : 4 ≤ s.size := by omega
    have htn : ((s.size : Int) - 4).toNat = s.size - 4 := by omega
    have hs1 : s.extract 0 (s.size - 4) = strB (s.data.toList.take (s.size - 4)) := by
      conv => lhs; rw [← strB_list s]
      rw [strB_extract, List.drop_zero, Nat.sub_zero]
    have hs2 : s.extract (s.size - 4) s.size = strB (s.data.toList.drop (s.size - 4)) := by
      conv => lhs; rw [← strB_list s]
      rw [strB_extract, strB_size, hl]
      congr 1
      rw [List.take_of_length_le (by rw [List.length_drop, hl]; omega)]
    have hto : ∀ w', (Instr.sliceAt 9 (.string s) none (some (.int .i64 ((s.size : Int) - 4))) none).run Try.prog w' = .ok (.string (strB (s.data.toList.take (s.size - 4)))) w' := fun w' => by
      rw [slice_to (by kernel_rfl) (by omega) (by omega), htn, hs1]
    have hfrom : ∀ w', (Instr.sliceAt 9 (.string s) (some (.int .i64 ((s.size : Int) - 4))) none none).run Try.prog w' = .ok (.string (strB (s.data.toList.drop (s.size - 4)))) w' := fun w' => by
      rw [slice_from (by kernel_rfl) (by omega) (by omega), htn, hs2]
    refine ⟨_, fun w' _ => hto w', ?_⟩
    have hz : (strB (s.data.toList.take (s.size - 4))).size ≤ 1000000000 := by rw [strB_size, List.length_take]; omega
    refine (sum_spec _ hz _).mono fun e w1 ⟨he, hx1⟩ => ⟨_, he, ((Ext.refl w).drew).trans hx1, ?_⟩
    have hT : T [] w w1 [] := (T.nil w).quiet (((Ext.refl w).drew).trans hx1)
    refine bytes_spec _ hT fun k w2 h2 => ⟨_, _, _, rfl, h2.chg.ext, ?_⟩
    refine ⟨_, fun x0 hx => by rw [hx]; exact row_string h2 List.mem_cons_self, _, fun w' _ => hfrom w', ?_⟩
    have e1 : (strB (four (crcSum (strB (s.data.toList.take (s.size - 4))).data.toList))).toList = four (crcSum (s.data.toList.take (s.size - 4))) := strB_toList _
    rw [e1, strB_toList]
    have ho : openB s.data.toList = if four (crcSum (s.data.toList.take (s.size - 4))) = s.data.toList.drop (s.size - 4) then (s.data.toList.take (s.size - 4), true) else ([], false) := by
      unfold openB
      rw [if_neg (by omega), hl]
    by_cases hq : four (crcSum (s.data.toList.take (s.size - 4))) = s.data.toList.drop (s.size - 4)
    · rw [ho, if_pos hq, hq]
      simp only [beq_self_eq_true, Bool.not_true]
      exact ⟨fun h => (by cases h), fun _ => ⟨_, _, hto _, rfl, h2.chg.ext⟩⟩
    · rw [ho, if_neg hq]
      have : (four (crcSum (s.data.toList.take (s.size - 4))) == s.data.toList.drop (s.size - 4)) = false := by simpa using hq
      rw [this]
      exact yes rfl ⟨rfl, h2.chg.ext⟩
end Go.Proofs.Ytdppllkjibfjcaa
