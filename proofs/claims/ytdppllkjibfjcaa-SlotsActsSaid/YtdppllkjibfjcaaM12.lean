import Derived.Laws.BytesArg
import Derived.Test.YtdppllkjibfjcaaM4
import Derived.Test.YtdppllkjibfjcaaM6
import Derived.Test.YtdppllkjibfjcaaM9
import Derived.Test.YtdppllkjibfjcaaM11
section
/-! crc: numbers of 32 bits, bit by bit. -/
namespace Go.Proofs.Ytdppllkjibfjcaa
open Go.Sh Go.RowKit
set_option linter.unusedVariables false
set_option maxRecDepth 20000
set_option maxHeartbeats 1000000
abbrev B32 := BitVec 32
/-- a number of 32 bits, as a value -/
abbrev u32v (x : B32) : Value := .int .u32 (x.toNat : Int)
theorem wrap32 (n : Int) (h : 0 ≤ n) (h' : n < 4294967296) : IntKind.u32.wrap n = n := by
  have e : IntKind.u32.wrap n = n % 4294967296 := by simp [IntKind.wrap, IntKind.bits, IntKind.signed]
  rw [e]; omega
theorem wrap8 (n : Int) : IntKind.u8.wrap n = n % 256 := by simp [IntKind.wrap, IntKind.bits, IntKind.signed]
theorem wrapU64 (n : Int) : IntKind.u64.wrap n = n % 18446744073709551616 := by simp [IntKind.wrap, IntKind.bits, IntKind.signed]
theorem ofInt32 (x : B32) : BitVec.ofInt 32 (x.toNat : Int) = x := by
  apply BitVec.eq_of_toNat_eq
  simp
theorem b32_lt (x : B32) : (x.toNat : Int) < 4294967296 := by have := x.isLt; omega
theorem xor32 (x y : B32) : bits2 .xor .u32 (x.toNat : Int) (y.toNat : Int) = ((x ^^^ y).toNat : Int) := by
  unfold bits2
  simp only [IntKind.bits, ofInt32]
  exact wrap32 _ (by omega) (b32_lt _)
theorem and32 (x y : B32) : bits2 .and .u32 (x.toNat : Int) (y.toNat : Int) = ((x &&& y).toNat : Int) := by
  unfold bits2
  simp only [IntKind.bits, ofInt32]
  exact wrap32 _ (by omega) (b32_lt _)
theorem shr32 (x : B32) (k : Nat) : Int.fdiv (x.toNat : Int) (2 ^ k) = ((x >>> k).toNat : Int) := by
  rw [BitVec.toNat_ushiftRight, Nat.shiftRight_eq_div_pow, Int.fdiv_eq_ediv_of_nonneg _ (Int.le_of_lt (Int.pow_pos (by decide)))]
  push_cast
  rfl
def poly : B32 := 0x82f63b78#32
/-- one bit -/
def step1 (x : B32) : B32 := (x >>> 1) ^^^ (poly * (x &&& 1#32))
def step4 (x : B32) : B32 := step1 (step1 (step1 (step1 x)))
theorem step1_bit (x : B32) : step1 x = (x >>> 1) ^^^ (if x.getLsbD 0 then poly else 0#32) := by
  unfold step1
  congr 1
  have h : x &&& 1#32 = if x.getLsbD 0 then 1#32 else 0#32 := by
    apply BitVec.eq_of_getLsbD_eq
    intro i hi
    by_cases h0 : i = 0
    · subst h0
      rw [BitVec.getLsbD_and]
      cases hx : x.getLsbD 0 <;> rfl
    · have h1 : (1#32).getLsbD i = false := by
        rw [BitVec.getLsbD_one]; simp; omega
      rw [BitVec.getLsbD_and, h1, Bool.and_false]
      split
      · exact h1.symm
      · simp
  rw [h]
  split
  · exact BitVec.mul_one ..
  · exact BitVec.mul_zero ..
theorem step1_xor (x y : B32) : step1 (x ^^^ y) = step1 x ^^^ step1 y := by
  rw [step1_bit, step1_bit, step1_bit]
  apply BitVec.eq_of_getLsbD_eq
  intro i hi
  simp only [BitVec.getLsbD_xor, BitVec.getLsbD_ushiftRight]
  cases x.getLsbD 0 <;> cases y.getLsbD 0 <;> simp <;> (try (generalize poly.getLsbD i = p)) <;> (generalize x.getLsbD (1 + i) = a) <;> (generalize y.getLsbD (1 + i) = b) <;> revert a b <;> simp <;> (try (revert p; decide)) <;> (try decide)
theorem step4_xor (x y : B32) : step4 (x ^^^ y) = step4 x ^^^ step4 y := by simp only [step4, step1_xor]
theorem step1_even {x : B32} (h : x.getLsbD 0 = false) : step1 x = x >>> 1 := by rw [step1_bit, h]; simp
theorem step4_high (x : B32) : step4 (x &&& 0xfffffff0#32) = x >>> 4 := by
  have hg : ∀ i, (x &&& 0xfffffff0#32).getLsbD i = (decide (4 ≤ i) && x.getLsbD i) := by
    intro i
    rw [BitVec.getLsbD_and]
    by_cases hi : i < 32
    · have : (0xfffffff0#32).getLsbD i = decide (4 ≤ i) := by
        have : ∀ i : Fin 32, (0xfffffff0#32).getLsbD i.val = decide (4 ≤ i.val) := by decide
        exact this ⟨i, hi⟩
      rw [this, Bool.and_comm]
    · rw [BitVec.getLsbD_of_ge _ _ (by omega)]; simp
  generalize hy : x &&& 0xfffffff0#32 = y at hg
  have s : ∀ (k : Nat) (z : B32), k < 4 → (∀ i, z.getLsbD i = (decide (4 ≤ k + i) && x.getLsbD (k + i))) → ∀ i, (step1 z).getLsbD i = (decide (4 ≤ k + 1 + i) && x.getLsbD (k + 1 + i)) := by
    intro k z hk hz i
    rw [step1_even (by rw [hz, decide_eq_false (by omega), Bool.false_and]), BitVec.getLsbD_ushiftRight, hz, show k + (1 + i) = k + 1 + i by omega]
  have h := s 3 _ (by decide) (s 2 _ (by decide) (s 1 _ (by decide) (s 0 y (by decide) (fun i => by rw [hg, Nat.zero_add]))))
  apply BitVec.eq_of_getLsbD_eq
  intro i hi
  unfold step4
  rw [h, BitVec.getLsbD_ushiftRight, decide_eq_true (by omega), Bool.true_and]
/-- half a byte by the table -/
def half (x : B32) : B32 := (x >>> 4) ^^^ step4 (x &&& 15#32)
theorem half_step4 (x : B32) : half x = step4 x := by
  have h : x = (x &&& 0xfffffff0#32) ^^^ (x &&& 15#32) := by
    apply BitVec.eq_of_getLsbD_eq
    intro i hi
    have h1 : ∀ i : Fin 32, (0xfffffff0#32).getLsbD i.val = !(15#32).getLsbD i.val := by decide
    have h2 := h1 ⟨i, hi⟩
    simp only [BitVec.getLsbD_xor, BitVec.getLsbD_and] at *
    rw [h2]
    cases x.getLsbD i <;> cases (15#32).getLsbD i <;> rfl
  unfold half
  conv => rhs; rw [h, step4_xor, step4_high]
def byte32 (b : UInt8) : B32 := BitVec.ofNat 32 b.toNat
/-- one byte -/
def crcB (x : B32) (b : UInt8) : B32 := step4 (step4 (x ^^^ byte32 b))
def crcMore (n : B32) (s : List UInt8) : B32 := ~~~ (s.foldl crcB (~~~ n))
def crcSum (s : List UInt8) : B32 := crcMore 0#32 s
def four (n : B32) : List UInt8 := [UInt8.ofNat n.toNat, UInt8.ofNat (n.toNat / 256), UInt8.ofNat (n.toNat / 65536), UInt8.ofNat (n.toNat / 16777216)]
end Go.Proofs.Ytdppllkjibfjcaa
end
section
/-! crc: the table, More, Sum, bytes. -/
namespace Go.Proofs.Ytdppllkjibfjcaa
open Go.Sh Go.RowKit
set_option linter.unusedVariables false
set_option maxRecDepth 20000
set_option maxHeartbeats 1000000
def it1 : Nat → B32 → B32
  | 0, x => x
  | j + 1, x => step1 (it1 j x)
theorem step1_val (x : B32) : bits2 .xor .u32 (Int.fdiv (x.toNat : Int) (2 ^ 1)) (IntKind.u32.wrap (2197175160 * (bits2 .and .u32 (x.toNat : Int) 1))) = ((step1 x).toNat : Int) := by
  have h1 : bits2 .and .u32 (x.toNat : Int) 1 = ((x &&& 1#32).toNat : Int) := and32 x 1#32
  have h2 : IntKind.u32.wrap (2197175160 * ((x &&& 1#32).toNat : Int)) = ((poly * (x &&& 1#32)).toNat : Int) := by
    have e : IntKind.u32.wrap (2197175160 * ((x &&& 1#32).toNat : Int)) = (2197175160 * ((x &&& 1#32).toNat : Int)) % 4294967296 := by simp [IntKind.wrap, IntKind.bits, IntKind.signed]
    rw [e, BitVec.toNat_mul]
    have : poly.toNat = 2197175160 := rfl
    rw [this, Int.natCast_emod, Int.natCast_mul]
    rfl
  rw [h1, h2, shr32 x 1, xor32]
  rfl
def tabC (n : Nat) : Array Value := ((List.range 16).map fun i => if i < n then u32v (step4 (BitVec.ofNat 32 i)) else .int .u32 0).toArray
theorem tabC_size (n : Nat) : (tabC n).size = 16 := by simp [tabC]
theorem tabC_get (n i : Nat) (hi : i < 16) : (tabC n)[i]? = some (if i < n then u32v (step4 (BitVec.ofNat 32 i)) else .int .u32 0) := by
  simp [tabC, hi]
theorem tabC_step (n : Nat) (hn : n < 16) : (tabC n).setIfInBounds n (u32v (step4 (BitVec.ofNat 32 n))) = tabC (n + 1) := by
  apply Array.ext_getElem?
  intro i
  by_cases hi : i < 16
  · rw [Array.getElem?_setIfInBounds, tabC_get (n + 1) i hi, tabC_size]
    by_cases h : n = i
    · subst h; simp [hn]
    · rw [if_neg h, tabC_get n i hi]
      congr 1
      by_cases h2 : i < n
      · rw [if_pos h2, if_pos (by omega)]
      · rw [if_neg h2, if_neg (by omega)]
  · rw [Array.getElem?_eq_none (by simp [tabC_size]; omega), Array.getElem?_eq_none (by simp [tabC_size]; omega)]
theorem storeBig_t {P : Program} {t0 : TypeId} {i : TypeInfo} {F : List Nat} {w0 w : World} {Γ Δ : List A} {b : Nat} {c cs : Array Value} {t : TypeId} (hT : T F w0 w Γ) (hk : Pick (blk b c t) Γ Δ) (hi : P.info? t0 = some i) (hs : cs.size = P.cellsOf t0)
    (hv : ∀ v ∈ cs.toList, scalar v = true) (hl : cs.size = c.size) : ∃ w', (Instr.storeAt t0 (.pointer (some ⟨b, 0, none⟩)) (.agg cs)).run P w = .ok () w' ∧ T F w0 w' (blk b cs t :: Δ) := by
  obtain ⟨w', h1, h2⟩ := stBig.t (P := P) (K := fun _ w' => T F w0 w' (blk b (putAt c 0 cs.toList) t :: Δ)) hT hk hi hs hv (by omega) fun w' h => h
  rw [putAt_all hl.symm] at h2
  exact ⟨w', h1, h2⟩
theorem tabC_scalar (n : Nat) : ∀ v ∈ (tabC n).toList, scalar v = true := by
  intro v hv
  simp only [tabC, List.mem_map] at hv
  obtain ⟨i, _, rfl⟩ := hv
  split <;> rfl
theorem table_spec (w : World) : Ret Try.prog 101 #[] w (.agg (tabC 16)) := by
  refine ret_of (crc_table_calls ?_)
  unfold crc_table
  refine Alloc.t (T.nil w) fun k0 w1 h1 => Alloc.t h1 fun k1 w2 h2 => ?_
  have h2' : T [] w w2 [blk k1 (tabC 0) 142, blk k0 (tabC 0) 142] := h2
  refine ⟨fun vs w' => ∃ n : Nat, vs = [.int .i64 n] ∧ n ≤ 16 ∧ T [] w w' [blk k1 (tabC n) 142, blk k0 (tabC 0) 142], fun vs _ => match vs with | [.int _ n] => (16 - n).toNat | _ => 0, ⟨0, rfl, by omega, h2'⟩, ?_⟩
  rintro vs w3 ⟨n, rfl, hn, h3⟩
  refine ⟨_, rfl, dec_t fun hlt => ?_, dec_f fun hge => ?_⟩
  · have hlt : n < 16 := by omega
    have e0 : IntKind.u32.wrap (n : Int) = ((it1 0 (BitVec.ofNat 32 n)).toNat : Int) := by
      rw [wrap32 _ (by omega) (by omega)]
      show (n : Int) = ((BitVec.ofNat 32 n).toNat : Int)
      rw [BitVec.toNat_ofNat]; omega
    refine ⟨fun vs w' => ∃ j : Nat, vs = [u32v (it1 j (BitVec.ofNat 32 n)), .int .i64 j] ∧ j ≤ 4 ∧ T [] w w' [blk k1 (tabC n) 142, blk k0 (tabC 0) 142], fun vs _ => match vs with | [_, .int _ j] => (4 - j).toNat | _ => 0, ⟨0, by rw [e0]; rfl, by omega, h3⟩, ?_⟩
    rintro vs w4 ⟨j, rfl, hj, h4⟩
    refine ⟨_, _, rfl, dec_t fun hjl => ⟨⟨j + 1, ?_, by omega, h4⟩, ?_⟩, dec_f fun hjg => ⟨by omega, by omega, ?_⟩⟩
    · rw [step1_val, wrap64 _ (by omega) (by omega)]; rfl
    · show ((4 : Int) - IntKind.i64.wrap ((j : Int) + 1)).toNat < ((4 : Int) - (j : Int)).toNat
      rw [wrap64 _ (by omega) (by omega)]; omega
    · have hj4 : j = 4 := by omega
      subst hj4
      rw [addr_add, Nat.zero_add, Nat.mul_one, show ((n : Nat) : Int).toNat = n by omega]
      refine St.t h4 .head (by rw [tabC_size]; omega) (tabC_step n hlt) rfl fun w5 h5 => ⟨⟨n + 1, ?_, by omega, h5⟩, ?_⟩
      · rw [wrap64 _ (by omega) (by omega)]; rfl
      · show ((16 : Int) - IntKind.i64.wrap ((n : Int) + 1)).toNat < ((16 : Int) - (n : Int)).toNat
        rw [wrap64 _ (by omega) (by omega)]; omega
  · have hn16 : n = 16 := by omega
    subst hn16
    obtain ⟨w6, hr, h6⟩ := storeBig_t (P := Try.prog) (t0 := 142) (i := Try.t142) (cs := tabC 16) h3 (.tail .head) (by kernel_rfl) (by rw [tabC_size]; kernel_rfl) (tabC_scalar 16) (by rw [tabC_size, tabC_size])
    refine ⟨tabC 16, tabC_size 16, T.big h3 (by repeat (first | exact List.Mem.head _ | refine List.Mem.tail _ ?_)) (fun i _ => by rw [Nat.zero_add]), w6, hr, tabC 16, tabC_size 16, T.big h6 (by repeat (first | exact List.Mem.head _ | refine List.Mem.tail _ ?_)) (fun i _ => by rw [Nat.zero_add]), rfl, h6.chg.ext⟩
theorem half_spec {F : List Nat} {w0 w : World} {Γ : List A} {kx kt : Nat} {x : B32} {tx : TypeId} (hT : T F w0 w (blk kx #[u32v x] tx :: Γ)) (ht : blk kt (tabC 16) 142 ∈ Γ) {Φ : Ending → World → Prop}
    (hΦ : ∀ w', T F w0 w' (blk kx #[u32v (step4 x)] tx :: Γ) → Φ (.returned (.tuple #[])) w') :
    Calls Try.prog 102 #[.pointer (some ⟨kx, 0, none⟩), .pointer (some ⟨kt, 0, none⟩)] w Φ := by
  refine (crc_More_1_calls (R := fun v w' => v = .tuple #[] ∧ T F w0 w' (blk kx #[u32v (step4 x)] tx :: Γ)) ?_).mono fun e w' ⟨v, he, hv, h⟩ => by rw [he, hv]; exact hΦ w' h
  unfold crc_More_1
  have hd := hT.drew
  have ha : bits2 .and .u32 (x.toNat : Int) 15 = ((x &&& 15#32).toNat : Int) := and32 x 15#32
  have hlt : (x &&& 15#32).toNat < 16 := by
    rw [BitVec.toNat_and]
    exact Nat.lt_of_le_of_lt Nat.and_le_right (by decide)
  refine ⟨fun w => T F w0 w (blk kx #[u32v x] tx :: Γ), hd, _, fun w h => h.ld List.mem_cons_self rfl, _, fun w h => h.ld List.mem_cons_self rfl, by rw [ha]; omega, by rw [ha]; omega, ((step4 (x &&& 15#32)).toNat : Int), fun w h => ?_, ?_⟩
  · rw [ha, addr_add, Nat.zero_add, Nat.mul_one, Int.toNat_natCast]
    refine h.ld (List.mem_cons_of_mem _ ht) ?_
    rw [tabC_get 16 _ hlt, if_pos hlt, BitVec.ofNat_toNat]
    simp
  · rw [shr32 x 4, xor32]
    refine St.t hd .head (by simp) (by rfl) rfl fun w1 h1 => ⟨rfl, ?_⟩
    rw [← half_step4]
    exact h1
theorem index_str {P : Program} {t : TypeId} {s : ByteArray} {k : IntKind} {n : Int} {w : World} (ht : P.underlying t = some .string) (h0 : 0 ≤ n) (h1 : n < (s.size : Int)) : (Instr.index t (.string s) (.int k n)).run P w = .ok (.int .u8 ((s.data.toList.getD n.toNat 0).toNat : Int)) w := by
  have hn : n.toNat < s.size := by omega
  have hn2 : n.toNat < s.data.toList.length := by rw [Array.length_toList]; exact hn
  simp [Instr.index, asIntOf, underlying_run ht, h0, h1]
  rfl
theorem more_spec (n : B32) (s : ByteArray) (hs : s.size ≤ 1000000000) (w : World) : Ret Try.prog 90 #[u32v n, .string s] w (u32v (crcMore n s.data.toList)) := by
  refine ret_of (crc_More_calls ?_)
  unfold crc_More
  refine (table_spec w).mono fun e w1 ⟨he, hx⟩ => ⟨_, tabC_size 16, he, ?_⟩
  have h1 : T [] w w1 [] := (T.nil w).quiet hx
  refine Alloc.t h1 fun k5 w2 h2 => ?_
  have h2' : T [] w w2 [blk k5 (tabC 0) 142] := h2
  obtain ⟨w3, hr, h3⟩ := storeBig_t (P := Try.prog) (t0 := 142) (i := Try.t142) (cs := tabC 16) h2' .head (by kernel_rfl) (by rw [tabC_size]; kernel_rfl) (tabC_scalar 16) (by rw [tabC_size, tabC_size])
  refine ⟨w3, hr, Alloc.t h3 fun k6 w4 h4 => ?_⟩
  have en : bits2 .xor .u32 IntKind.u32.max (n.toNat : Int) = ((~~~ n).toNat : Int) := by
    have : IntKind.u32.max = (((-1#32 : B32)).toNat : Int) := by decide
    rw [this, xor32]
    congr 2
  rw [en]
  refine St.t h4 .head (by simp) (by rfl) rfl fun w5 h5 => ?_
  have hl : s.data.toList.length = s.size := Array.length_toList
  refine ⟨fun vs w' => ∃ i : Nat, vs = [.int .i64 i] ∧ i ≤ s.size ∧ T [] w w' [blk k6 #[u32v ((s.data.toList.take i).foldl crcB (~~~ n))] 124, blk k5 (tabC 16) 142], fun vs _ => match vs with | [.int _ i] => (s.size - i).toNat | _ => 0, ⟨0, rfl, by omega, h5⟩, ?_⟩
  rintro vs w6 ⟨i, rfl, hi, h6⟩
  refine ⟨_, rfl, dec_t fun hlt => ?_, dec_f fun hge => ?_⟩
  · have hlt : i < s.size := by omega
    have hd := h6.drew
    have hb : ((s.data.toList.getD i 0).toNat : Int) < 256 := by have := (s.data.toList.getD i 0).toNat_lt; omega
    have ex : ∀ x : B32, bits2 .xor .u32 (x.toNat : Int) (IntKind.u32.wrap ((s.data.toList.getD i 0).toNat : Int)) = ((x ^^^ byte32 (s.data.toList.getD i 0)).toNat : Int) := by
      intro x
      have : IntKind.u32.wrap ((s.data.toList.getD i 0).toNat : Int) = ((byte32 (s.data.toList.getD i 0)).toNat : Int) := by
        rw [wrap32 _ (by omega) (by omega)]
        unfold byte32
        rw [BitVec.toNat_ofNat]
        omega
      rw [this, xor32]
    refine ⟨fun w' => T [] w w' _, hd, _, fun w h => h.ld (by repeat (first | exact List.Mem.head _ | refine List.Mem.tail _ ?_)) rfl, ((s.data.toList.getD i 0).toNat : Int), fun w h => ?_, ?_⟩
    · have := index_str (P := Try.prog) (t := 9) (k := .i64) (n := i) (s := s) (w := w) (by kernel_rfl) (by omega) (by omega)
      rwa [show ((i : Nat) : Int).toNat = i by omega] at this
    · rw [ex]
      refine St.t hd .head (by simp) (by rfl) rfl fun w7 h7 => ?_
      refine half_spec h7 (by repeat (first | exact List.Mem.head _ | refine List.Mem.tail _ ?_)) fun w8 h8 => ⟨rfl, half_spec h8 (by repeat (first | exact List.Mem.head _ | refine List.Mem.tail _ ?_)) fun w9 h9 => ⟨rfl, ⟨i + 1, ?_, by omega, ?_⟩, ?_⟩⟩
      · rw [wrap64 _ (by omega) (by omega)]; rfl
      · have : (s.data.toList.take (i + 1)).foldl crcB (~~~ n) = crcB ((s.data.toList.take i).foldl crcB (~~~ n)) (s.data.toList.getD i 0) := by
          rw [List.take_add_one, List.getElem?_eq_getElem (by omega), List.getD_eq_getElem?_getD, List.getElem?_eq_getElem (by omega)]
          simp
        rw [this]
        exact h9
      · show ((s.size : Int) - IntKind.i64.wrap ((i : Int) + 1)).toNat < ((s.size : Int) - (i : Int)).toNat
        rw [wrap64 _ (by omega) (by omega)]; omega
  · have hie : i = s.size := by omega
    subst hie
    rw [List.take_of_length_le (by omega)] at h6
    refine ⟨_, h6.ld (by repeat (first | exact List.Mem.head _ | refine List.Mem.tail _ ?_)) rfl, ?_, h6.chg.ext⟩
    have en2 : ∀ x : B32, bits2 .xor .u32 IntKind.u32.max (x.toNat : Int) = ((~~~ x).toNat : Int) := by
      intro x
      have : IntKind.u32.max = (((-1#32 : B32)).toNat : Int) := by decide
      rw [this, xor32]
      congr 2
    rw [en2]
    rfl
theorem sum_spec (s : ByteArray) (hs : s.size ≤ 1000000000) (w : World) : Ret Try.prog 78 #[.string s] w (u32v (crcSum s.data.toList)) := by
  refine ret_of (crc_Sum_calls ?_)
  unfold crc_Sum
  exact (more_spec 0#32 s hs w).mono fun e w1 ⟨he, hx⟩ => ⟨_, he, rfl, hx⟩
end Go.Proofs.Ytdppllkjibfjcaa
end
section
/-! crc: bytes, Seal, Open; rows of bytes as texts. -/
namespace Go.Proofs.Ytdppllkjibfjcaa
open Go.Sh Go.RowKit
set_option linter.unusedVariables false
set_option maxRecDepth 20000
set_option maxHeartbeats 1000000
/-- bytes, as cells -/
def bvals (l : List UInt8) : List Value := l.map fun b => .int .u8 b.toNat
theorem bvals_len (l : List UInt8) : (bvals l).length = l.length := List.length_map ..
theorem bvals_get (l : List UInt8) (i : Nat) : (bvals l)[i]? = l[i]?.map fun b => .int .u8 b.toNat := by simp [bvals]
/-- a text of bytes -/
abbrev strB (l : List UInt8) : ByteArray := ⟨l.toArray⟩
theorem strB_size (l : List UInt8) : (strB l).size = l.length := by show l.toArray.size = _; simp
theorem strB_list (s : ByteArray) : strB s.data.toList = s := by cases s; rfl
theorem strB_append (a b : List UInt8) : strB a ++ strB b = strB (a ++ b) := by
  apply ByteArray.ext
  rw [ByteArray.data_append]
  simp
theorem strB_inj {a b : List UInt8} (h : strB a = strB b) : a = b := by
  have := congrArg ByteArray.data h
  simpa using this
theorem strB_toList (l : List UInt8) : (strB l).toList = l := by rw [ByteArray.toList_eq]
theorem strB_extract (l : List UInt8) (i j : Nat) : (strB l).extract i j = strB ((l.drop i).take (j - i)) := by
  apply ByteArray.ext
  rw [ByteArray.data_extract]
  apply Array.toList_inj.1
  simp [List.take_drop]
/-- a row of bytes, as a text -/
theorem row_string {F : List Nat} {w0 w : World} {Γ : List A} {g : Option Nat} {n cap : Nat} {l : List UInt8} (hT : T F w0 w Γ) (hm : rowP 5 1 g n cap (bvals l) ∈ Γ) : (convert 30 9 (.slice (ptr g) n cap)).run Try.prog w = .ok (.string (strB l)) w := by
  have hs := hT.says hm
  have hl : l.length = n := by have := rowP.len hs; rw [bvals_len] at this; omega
  cases g with
  | none =>
    have h1 : cap = 0 := hs.2.2.2
    have h2 : n ≤ cap := hs.2.1
    obtain rfl : n = 0 := by omega
    subst h1
    have : l = [] := List.eq_nil_of_length_eq_zero (by omega)
    subst this
    exact run_convert_bytes_nil w 30 5 (by kernel_rfl) (by kernel_rfl) 0 0 _ (by kernel_rfl)
  | some b =>
    have h1 := run_convert_bytes_back (P := Try.prog) w 30 9 5 ⟨b, 0, none⟩ cap l (by kernel_rfl) (by kernel_rfl) (by kernel_rfl) (fun j hj => by
      rw [addr_add, Nat.zero_add]
      rw [rowP.cell hs (k := j) (v := .int .u8 (l[j]).toNat) (by rw [bvals_get, List.getElem?_eq_getElem hj]; rfl)])
    rw [hl] at h1
    exact h1
theorem blk_row {F : List Nat} {w0 w : World} {Γ : List A} {k : Nat} {e : TypeId} {c : Array Value} {xs : List Value} {n : Nat} (hT : T F w0 w (blk k c e :: Γ)) (hc : c.toList = xs) (hn : c.size = n) (hm : n ≤ 1000000000) : T F w0 w (rowP e 1 (some k) n n xs :: Γ) :=
  hT.weak rfl fun g hg => ⟨by rw [← hc, Array.length_toList, hn, Nat.mul_one], Nat.le_refl _, by simp only [maxLen]; omega, c, hg, by rw [hn, Nat.mul_one], by rw [hc, Nat.mul_one, ← hn, ← Array.length_toList, hc, List.take_length]⟩
theorem bytes_spec (n : B32) {F : List Nat} {w0 w : World} {Γ : List A} (hT : T F w0 w Γ) {Φ : Ending → World → Prop} (hΦ : ∀ k w', T F w0 w' (rowP 5 1 (some k) 4 4 (bvals (four n)) :: Γ) → Φ (.returned (.slice (some ⟨k, 0, none⟩) 4 4)) w') :
    Calls Try.prog 77 #[u32v n] w Φ := by
  refine (crc_bytes_calls (R := fun v w' => ∃ k, v = .slice (some ⟨k, 0, none⟩) 4 4 ∧ T F w0 w' (rowP 5 1 (some k) 4 4 (bvals (four n)) :: Γ)) ?_).mono fun e w' ⟨v, he, k, hv, h⟩ => by rw [he, hv]; exact hΦ k w' h
  unfold crc_bytes
  refine Alloc.t hT fun k w1 h1 => ⟨k, rfl, blk_row h1 ?_ rfl (by decide)⟩
  have hlt := n.isLt
  have hw : ∀ d : Nat, 0 < d → IntKind.u8.wrap ((n.toNat : Int) / (d : Int)) = ((UInt8.ofNat (n.toNat / d)).toNat : Int) := by
    intro d hd
    rw [wrap8]
    simp
  have h0 : IntKind.u8.wrap (n.toNat : Int) = ((UInt8.ofNat n.toNat).toNat : Int) := by rw [wrap8]; simp
  have hf : ∀ k : Nat, Int.fdiv (n.toNat : Int) (2 ^ k) = (n.toNat : Int) / ((2 ^ k : Nat) : Int) := by
    intro k
    rw [Int.fdiv_eq_ediv_of_nonneg _ (Int.le_of_lt (Int.pow_pos (by decide)))]
    push_cast
    rfl
  rw [hf 8, hf 16, hf 24, hw _ (by decide), hw _ (by decide), hw _ (by decide), h0]
  rfl
def padB (l : List UInt8) (n : Nat) : List UInt8 := l ++ List.replicate (n - l.length) 0
def sealB (l : List UInt8) (size : Nat) : List UInt8 := padB l (size - 4) ++ four (crcSum (padB l (size - 4)))
theorem four_len (n : B32) : (four n).length = 4 := rfl
theorem padB_len {l : List UInt8} {n : Nat} (h : l.length ≤ n) : (padB l n).length = n := by simp [padB]; omega
theorem sealB_len {l : List UInt8} {n : Nat} (h : l.length + 4 ≤ n) : (sealB l n).length = n := by
  unfold sealB
  rw [List.length_append, padB_len (by omega), four_len]; omega
def openB (s : List UInt8) : List UInt8 × Bool := if s.length < 4 then ([], false) else if four (crcSum (s.take (s.length - 4))) = s.drop (s.length - 4) then (s.take (s.length - 4), true) else ([], false)
theorem open_seal {l : List UInt8} {n : Nat} (h : l.length + 4 ≤ n) : openB (sealB l n) = (padB l (n - 4), true) := by
  have hl := sealB_len h
  have hp : (padB l (n - 4)).length = n - 4 := padB_len (by omega)
  have h1 : (sealB l n).take (n - 4) = padB l (n - 4) := by unfold sealB; exact List.take_left' hp
  have h2 : (sealB l n).drop (n - 4) = four (crcSum (padB l (n - 4))) := by unfold sealB; exact List.drop_left' hp
  unfold openB
  rw [hl, if_neg (by omega), h1, h2, if_pos rfl]
theorem open_spec (s : ByteArray) (hs : s.size ≤ 1000000000) (w : World) : Ret Try.prog 79 #[.string s] w (.tuple #[.string (strB (openB s.data.toList).1), .bool (openB s.data.toList).2]) := by
  refine ret_of (crc_Open_calls ?_)
  unfold crc_Open
  have hl : s.data.toList.length = s.size := Array.length_toList
  have wr : IntKind.i64.wrap ((s.size : Int) - 4) = (s.size : Int) - 4 := wrap64 _ (by omega) (by omega)
  rw [wr]
  refine ⟨fun w' => Ext w w', (Ext.refl w).drew, dec_t fun hlt => ⟨?_, (Ext.refl w).drew⟩, dec_f fun hge => ?_⟩
  · unfold openB
    rw [if_pos (by omega)]
  · have h4 : 4 ≤ s.size := by omega
    have htn : ((s.size : Int) - 4).toNat = s.size - 4 := by omega
    have hs1 : s.extract 0 (s.size - 4) = strB (s.data.toList.take (s.size - 4)) := by
      conv => lhs; rw [← strB_list s]
      rw [strB_extract, List.drop_zero, Nat.sub_zero]
    have hs2 : s.extract (s.size - 4) s.size = strB (s.data.toList.drop (s.size - 4)) := by
      conv => lhs; rw [← strB_list s]
      rw [strB_extract, strB_size, hl]
      congr 1
      rw [List.take_of_length_le (by rw [List.length_drop, hl]; omega)]
    have hto : ∀ w', (Instr.sliceAt 9 (.string s) none (some (.int .i64 ((s.size : Int) - 4))) none).run Try.prog w' = .ok (.string (strB (s.data.toList.take (s.size - 4)))) w' := fun w' => by
      rw [slice_to (by kernel_rfl) (by omega) (by omega), htn, hs1]
    have hfrom : ∀ w', (Instr.sliceAt 9 (.string s) (some (.int .i64 ((s.size : Int) - 4))) none none).run Try.prog w' = .ok (.string (strB (s.data.toList.drop (s.size - 4)))) w' := fun w' => by
      rw [slice_from (by kernel_rfl) (by omega) (by omega), htn, hs2]
    refine ⟨_, fun w' _ => hto w', ?_⟩
    have hz : (strB (s.data.toList.take (s.size - 4))).size ≤ 1000000000 := by rw [strB_size, List.length_take]; omega
    refine (sum_spec _ hz _).mono fun e w1 ⟨he, hx1⟩ => ⟨_, he, ((Ext.refl w).drew).trans hx1, ?_⟩
    have hT : T [] w w1 [] := (T.nil w).quiet (((Ext.refl w).drew).trans hx1)
    refine bytes_spec _ hT fun k w2 h2 => ⟨_, _, _, rfl, h2.chg.ext, ?_⟩
    refine ⟨_, fun x0 hx => by rw [hx]; exact row_string h2 List.mem_cons_self, _, fun w' _ => hfrom w', ?_⟩
    have e1 : (strB (four (crcSum (strB (s.data.toList.take (s.size - 4))).data.toList))).toList = four (crcSum (s.data.toList.take (s.size - 4))) := strB_toList _
    rw [e1, strB_toList]
    have ho : openB s.data.toList = if four (crcSum (s.data.toList.take (s.size - 4))) = s.data.toList.drop (s.size - 4) then (s.data.toList.take (s.size - 4), true) else ([], false) := by
      unfold openB
      rw [if_neg (by omega), hl]
    by_cases hq : four (crcSum (s.data.toList.take (s.size - 4))) = s.data.toList.drop (s.size - 4)
    · rw [ho, if_pos hq, hq]
      simp only [beq_self_eq_true, Bool.not_true]
      exact ⟨fun h => (by cases h), fun _ => ⟨_, _, hto _, rfl, h2.chg.ext⟩⟩
    · rw [ho, if_neg hq]
      have : (four (crcSum (s.data.toList.take (s.size - 4))) == s.data.toList.drop (s.size - 4)) = false := by simpa using hq
      rw [this]
      exact yes rfl ⟨rfl, h2.chg.ext⟩
end Go.Proofs.Ytdppllkjibfjcaa
end
section
/-! crc: Seal. -/
namespace Go.Proofs.Ytdppllkjibfjcaa
open Go.Sh Go.RowKit
set_option linter.unusedVariables false
set_option maxRecDepth 20000
set_option maxHeartbeats 1000000
theorem byteCells_b (l : List UInt8) : Go.Lib.byteCells l = bvals l := rfl
theorem bvals_zeros (n : Nat) : List.replicate n (Value.int .u8 0) = bvals (List.replicate n 0) := by simp [bvals]
theorem bvals_drop (l : List UInt8) (n : Nat) : (bvals l).drop n = bvals (l.drop n) := by simp [bvals]
theorem bvals_append (a b : List UInt8) : bvals a ++ bvals b = bvals (a ++ b) := by simp [bvals]
theorem bvals_one (l : List UInt8) : ∀ u ∈ bvals l, u.oneCell' = true := by
  intro v hv
  simp only [bvals, List.mem_map] at hv
  obtain ⟨b, _, rfl⟩ := hv
  rfl
theorem seal_spec (s : ByteArray) (size : Nat) (hs : s.size + 4 ≤ size) (hz : size ≤ 4096) (w : World) : Ret Try.prog 65 #[.string s, .int .i64 (size : Int)] w (.tuple #[.string (strB (sealB s.data.toList size)), .bool true]) := by
  refine ret_of (crc_Seal_calls ?_)
  unfold crc_Seal
  have wr : IntKind.i64.wrap ((size : Int) - 4) = (size : Int) - 4 := wrap64 _ (by omega) (by omega)
  have hn : ((size : Int) - 4).toNat = size - 4 := by omega
  have hl : s.data.toList.length = s.size := Array.length_toList
  rw [wr]
  refine no (decide_eq_false (by omega)) (no (decide_eq_false (by omega)) (no (decide_eq_false (by omega)) ?_))
  obtain ⟨k, w1, hm, h1⟩ := make_t (P := Try.prog) (t := 30) (e := 5) (i := Try.t5) (z := .int .u8 0) (kl := .i64) (kc := .i64) (n := (size : Int) - 4) (c := (size : Int) - 4) (by kernel_rfl) (by kernel_rfl) (by kernel_rfl) (by kernel_rfl) (by rfl) (by kernel_rfl) (by omega) (Int.le_refl _) (by omega) (T.nil w)
  rw [hn] at hm h1
  obtain ⟨w2, hcp, h2⟩ := copyStr_t (P := Try.prog) (dT := 30) (sT := 9) (ty := 3) (cs := #[false, false]) (s := s) (by kernel_rfl) (by kernel_rfl) (by omega) h1 .head
  have ex : Go.Lib.byteCells s.data.toList ++ (List.replicate (size - 4) ((Value.int .u8 0).cells.getD 0 undef)).drop s.size = bvals (padB s.data.toList (size - 4)) := by
    show bvals s.data.toList ++ (List.replicate (size - 4) (Value.int .u8 0)).drop s.size = _
    rw [bvals_zeros, bvals_drop, bvals_append, List.drop_replicate]
    unfold padB
    rw [hl]
  rw [ex] at h2
  refine ⟨_, _, _, w1, hm, _, w2, hcp, _, w2, row_string h2 List.mem_cons_self, ?_⟩
  have hp : (padB s.data.toList (size - 4)).length = size - 4 := padB_len (by omega)
  refine (sum_spec _ (by rw [strB_size, hp]; omega) _).mono fun e w3 ⟨he, hx⟩ => ⟨_, he, ?_⟩
  have h3 := h2.quiet hx
  refine bytes_spec _ h3 fun k4 w4 h4 => ⟨_, _, _, rfl, ?_⟩
  have hr4 := h4.says (x := rowP 5 1 (some k4) 4 4 _) List.mem_cons_self
  obtain ⟨g5, c5, w5, ha, h5⟩ := append_t (P := Try.prog) (t := 30) (ty := 30) (e := 5) (i := Try.t5) (z := .int .u8 0) (size := 1) #[false, false] (by kernel_rfl) (by kernel_rfl) (by kernel_rfl) (by kernel_rfl) (by rfl)
    h4 (.tail .head) (a := ⟨k4, 0, none⟩) (m := 4) (c := 4) (news := bvals (four (crcSum (padB s.data.toList (size - 4))))) (by rfl) (fun j u hu => by rw [addr_add, Nat.zero_add]; exact rowP.cell hr4 hu) (bvals_one _) (by simp only [maxLen]; omega)
    (by have : (Try.t5).bytes = 1 := by kernel_rfl
        rw [this]; omega)
  rw [bvals_append] at h5
  refine ⟨_, _, _, w5, ha, _, w5, row_string h5 List.mem_cons_self, rfl, h5.chg.ext⟩
end Go.Proofs.Ytdppllkjibfjcaa
end
section
/-! pack: numbers and bytes. -/
namespace Go.Proofs.Ytdppllkjibfjcaa
open Go.Sh Go.RowKit
set_option linter.unusedVariables false
set_option maxRecDepth 20000
set_option maxHeartbeats 1000000
/-- the bytes of a number, the lowest one first -/
def leB (n w : Nat) : List UInt8 := (List.range w).map fun k => UInt8.ofNat (n / 2 ^ (8 * k))
def leN : List UInt8 → Nat
  | [] => 0
  | b :: r => b.toNat + 256 * leN r
def wsum (ws : List Nat) (i : Nat) : Nat := (ws.take i).sum
def encP : List Nat → List Nat → List UInt8
  | n :: ns, w :: ws => leB n w ++ encP ns ws
  | _, _ => []
def decP (s : List UInt8) : List Nat → List Nat
  | [] => []
  | w :: ws => leN (s.take w) :: decP (s.drop w) ws
theorem leB_len (n w : Nat) : (leB n w).length = w := by simp [leB]
theorem leB_succ (n w : Nat) : leB n (w + 1) = UInt8.ofNat n :: leB (n / 256) w := by
  unfold leB
  rw [List.range_succ_eq_map]
  simp only [List.map_cons, List.map_map, Nat.mul_zero, Nat.pow_zero, Nat.div_one, List.cons.injEq, true_and]
  apply List.map_congr_left
  intro k _
  simp only [Function.comp]
  rw [Nat.div_div_eq_div_mul, show 8 * (k + 1) = 8 + 8 * k by omega, Nat.pow_add]
theorem leN_leB : ∀ (w n : Nat), n < 256 ^ w → leN (leB n w) = n
  | 0, n, h => by have : n = 0 := by simpa using h
                  subst this; rfl
  | w + 1, n, h => by
    rw [leB_succ, leN, leN_leB w (n / 256) (by rw [Nat.div_lt_iff_lt_mul (by decide), ← Nat.pow_succ]; exact h)]
    have : (UInt8.ofNat n).toNat = n % 256 := by simp
    rw [this]; omega
theorem leN_snoc : ∀ (l : List UInt8) (b : UInt8), leN (l ++ [b]) = leN l + b.toNat * 256 ^ l.length
  | [], b => by simp [leN]
  | c :: l, b => by
    simp only [List.cons_append, leN, leN_snoc l b, List.length_cons, Nat.pow_succ]
    have : 256 * (b.toNat * 256 ^ l.length) = b.toNat * (256 ^ l.length * 256) := by rw [Nat.mul_comm 256, Nat.mul_assoc]
    rw [Nat.mul_add, this]; omega
theorem leN_lt : ∀ (l : List UInt8), leN l < 256 ^ l.length
  | [] => by simp [leN]
  | b :: l => by
    have h := leN_lt l
    have hb := b.toNat_lt
    simp only [leN, List.length_cons, Nat.pow_succ]
    omega
theorem wsum_zero (ws : List Nat) : wsum ws 0 = 0 := rfl
theorem wsum_cons (w : Nat) (ws : List Nat) (i : Nat) : wsum (w :: ws) (i + 1) = w + wsum ws i := by simp [wsum]
theorem wsum_step {ws : List Nat} {i x : Nat} (h : ws[i]? = some x) : wsum ws (i + 1) = wsum ws i + x := by
  unfold wsum
  rw [List.take_add_one, h]
  simp
theorem wsum_all (ws : List Nat) {i : Nat} (h : ws.length ≤ i) : wsum ws i = ws.sum := by unfold wsum; rw [List.take_of_length_le h]
theorem wsum_le {ws : List Nat} {i j : Nat} (h : i ≤ j) : wsum ws i ≤ wsum ws j := by
  induction j with
  | zero => obtain rfl : i = 0 := by omega
            exact Nat.le_refl _
  | succ j ih =>
    by_cases hij : i = j + 1
    · subst hij; exact Nat.le_refl _
    · refine Nat.le_trans (ih (by omega)) ?_
      cases hj : ws[j]? with
      | some x => rw [wsum_step hj]; omega
      | none =>
        have := List.getElem?_eq_none_iff.1 hj
        rw [wsum_all ws this, wsum_all ws (by omega)]; exact Nat.le_refl _
theorem wsum_max {ws : List Nat} (i : Nat) : wsum ws i ≤ ws.sum := by
  rcases Nat.le_total i ws.length with h | h
  · have := wsum_le (ws := ws) h
    rwa [wsum_all ws (Nat.le_refl _)] at this
  · rw [wsum_all ws h]; exact Nat.le_refl _
theorem encP_len : ∀ (ns ws : List Nat), ns.length = ws.length → (encP ns ws).length = ws.sum
  | [], [], _ => rfl
  | n :: ns, w :: ws, h => by simp only [encP, List.length_append, leB_len, List.sum_cons, encP_len ns ws (by simpa using h)]
theorem encP_get : ∀ (ns ws : List Nat) (i k v x : Nat), ws[i]? = some x → ns[i]? = some v → k < x → (encP ns ws)[wsum ws i + k]? = some (UInt8.ofNat (v / 2 ^ (8 * k)))
  | [], _, i, _, _, _, _, h, _ => by simp at h
  | _ :: _, [], i, _, _, _, h, _, _ => by simp at h
  | n :: ns, w :: ws, 0, k, v, x, hw, hn, hk => by
    simp only [List.getElem?_cons_zero, Option.some.injEq] at hw hn
    subst hw; subst hn
    simp only [encP, wsum_zero, Nat.zero_add]
    rw [List.getElem?_append_left (by rw [leB_len]; exact hk)]
    simp [leB, hk]
  | n :: ns, w :: ws, i + 1, k, v, x, hw, hn, hk => by
    simp only [List.getElem?_cons_succ] at hw hn
    simp only [encP, wsum_cons]
    rw [List.getElem?_append_right (by rw [leB_len]; omega), leB_len, show w + wsum ws i + k - w = wsum ws i + k by omega]
    exact encP_get ns ws i k v x hw hn hk
theorem decP_len (s : List UInt8) : ∀ (ws : List Nat), (decP s ws).length = ws.length := by
  intro ws
  induction ws generalizing s with
  | nil => rfl
  | cons w ws ih => simp [decP, ih]
theorem decP_get : ∀ (ws : List Nat) (s : List UInt8) (i x : Nat), ws[i]? = some x → (decP s ws)[i]? = some (leN ((s.drop (wsum ws i)).take x))
  | [], _, i, _, h => by simp at h
  | w :: ws, s, 0, x, h => by
    simp only [List.getElem?_cons_zero, Option.some.injEq] at h
    subst h
    simp [decP, wsum_zero]
  | w :: ws, s, i + 1, x, h => by
    simp only [List.getElem?_cons_succ] at h
    simp only [decP, List.getElem?_cons_succ, wsum_cons]
    rw [decP_get ws (s.drop w) i x h, List.drop_drop]
theorem dec_enc : ∀ (ns ws : List Nat) (r : List UInt8), ns.length = ws.length → (∀ p ∈ ns.zip ws, p.1 < 256 ^ p.2) → decP (encP ns ws ++ r) ws = ns
  | [], [], _, _, _ => rfl
  | n :: ns, w :: ws, r, h, hf => by
    have h1 : n < 256 ^ w := hf (n, w) (by simp)
    have e1 : (encP (n :: ns) (w :: ws) ++ r).take w = leB n w := by
      simp only [encP, List.append_assoc]
      exact List.take_left' (leB_len n w)
    have e2 : (encP (n :: ns) (w :: ws) ++ r).drop w = encP ns ws ++ r := by
      simp only [encP, List.append_assoc]
      exact List.drop_left' (leB_len n w)
    rw [decP, e1, e2, leN_leB w n h1, dec_enc ns ws r (by simpa using h) fun p hp => hf p (by simp [hp])]
/-- what lies in a place when m bytes are read -/
def curP (s : List UInt8) (ws : List Nat) (m j : Nat) : Nat := leN ((s.drop (wsum ws j)).take (min (m - wsum ws j) (ws.getD j 0)))
theorem curP_zero (s : List UInt8) (ws : List Nat) (j : Nat) : curP s ws 0 j = 0 := by simp [curP, leN]
theorem curP_all (s : List UInt8) {ws : List Nat} {j x : Nat} (h : ws[j]? = some x) : curP s ws ws.sum j = leN ((s.drop (wsum ws j)).take x) := by
  unfold curP
  have h1 := wsum_step h
  have h2 := wsum_max (ws := ws) (j + 1)
  have h3 : ws.getD j 0 = x := by simp [List.getD, h]
  rw [h3, Nat.min_eq_right (by omega)]
theorem curP_other (s : List UInt8) {ws : List Nat} {i k x j : Nat} (h : ws[i]? = some x) (hk : k < x) (hj : j ≠ i) : curP s ws (wsum ws i + k + 1) j = curP s ws (wsum ws i + k) j := by
  unfold curP
  congr 2
  rcases Nat.lt_or_ge j i with h1 | h1
  · cases hy : ws[j]? with
    | none =>
      have h4 := List.getElem?_eq_none_iff.1 hy
      have : ws.getD j 0 = 0 := by simp [List.getD, hy]
      rw [this]; simp
    | some y =>
      have h2 : wsum ws j + y ≤ wsum ws i := by rw [← wsum_step hy]; exact wsum_le (by omega)
      have h3 : ws.getD j 0 = y := by simp [List.getD, hy]
      rw [h3]; omega
  · have h2 : wsum ws i + x ≤ wsum ws j := by rw [← wsum_step h]; exact wsum_le (by omega)
    omega
theorem curP_step {s : List UInt8} {ws : List Nat} {i k x : Nat} {b : UInt8} (h : ws[i]? = some x) (hk : k < x) (hb : s[wsum ws i + k]? = some b) : curP s ws (wsum ws i + k + 1) i = curP s ws (wsum ws i + k) i + b.toNat * 256 ^ k ∧ curP s ws (wsum ws i + k) i < 256 ^ k := by
  have h3 : ws.getD i 0 = x := by simp [List.getD, h]
  have hl : (s.drop (wsum ws i))[k]? = some b := by rw [List.getElem?_drop]; exact hb
  have hlen : ((s.drop (wsum ws i)).take k).length = k := by
    rw [List.length_take]
    have := List.getElem?_eq_some_iff.1 hl
    obtain ⟨h5, _⟩ := this
    omega
  unfold curP
  rw [h3, show min (wsum ws i + k + 1 - wsum ws i) x = k + 1 by omega, show min (wsum ws i + k - wsum ws i) x = k by omega, List.take_add_one, hl]
  refine ⟨?_, ?_⟩
  · show leN (_ ++ [b]) = _
    rw [leN_snoc, hlen]
  · have := leN_lt ((s.drop (wsum ws i)).take k)
    rwa [hlen] at this
theorem or64 {a b k : Nat} (ha : a < 2 ^ k) (hs : a + b * 2 ^ k < 18446744073709551616) : bits2 .or .u64 (a : Int) ((b * 2 ^ k : Nat) : Int) = ((a + b * 2 ^ k : Nat) : Int) := by
  have e : ∀ n : Nat, BitVec.ofInt 64 (n : Int) = BitVec.ofNat 64 n := fun n => by simp
  have h0 : bits2 .or .u64 (a : Int) ((b * 2 ^ k : Nat) : Int) = IntKind.u64.wrap (((BitVec.ofNat 64 a ||| BitVec.ofNat 64 (b * 2 ^ k)).toNat : Nat) : Int) := by
    unfold bits2
    simp only [IntKind.bits, e]
    rfl
  rw [h0, BitVec.toNat_or, BitVec.toNat_ofNat, BitVec.toNat_ofNat, Nat.mod_eq_of_lt (by omega), Nat.mod_eq_of_lt (by omega)]
  have h1 : a ||| b * 2 ^ k = a + b * 2 ^ k := by
    have := Nat.shiftLeft_add_eq_or_of_lt ha b
    rw [Nat.shiftLeft_eq] at this
    rw [Nat.or_comm, ← this, Nat.add_comm]
  rw [h1, wrapU64]
  omega
end Go.Proofs.Ytdppllkjibfjcaa
end
section
/-! pack: Size, Fits, places. -/
namespace Go.Proofs.Ytdppllkjibfjcaa
open Go.Sh Go.RowKit
set_option linter.unusedVariables false
set_option maxRecDepth 20000
set_option maxHeartbeats 1000000
def ints (ws : List Nat) : List Value := ws.map fun (x : Nat) => .int .i64 (x : Int)
def u64s (ns : List Nat) : List Value := ns.map fun (x : Nat) => .int .u64 (x : Int)
theorem ints_get {ws : List Nat} {i x : Nat} (h : ws[i]? = some x) : (ints ws)[i]? = some (.int .i64 (x : Int)) := by simp [ints, h]
theorem u64s_get {ws : List Nat} {i x : Nat} (h : ws[i]? = some x) : (u64s ws)[i]? = some (.int .u64 (x : Int)) := by simp [u64s, h]
/-- widths that may be -/
def Wid (ws : List Nat) : Prop := ws.length ≤ 64 ∧ ∀ x ∈ ws, 1 ≤ x ∧ x ≤ 8
theorem Wid.at {ws : List Nat} (h : Wid ws) {i x : Nat} (hi : ws[i]? = some x) : 1 ≤ x ∧ x ≤ 8 := h.2 x (List.mem_of_getElem? hi)
theorem widsum_le : ∀ (ws : List Nat), (∀ x ∈ ws, 1 ≤ x ∧ x ≤ 8) → ws.sum ≤ 8 * ws.length
  | [], _ => by simp
  | w :: ws, h => by
    have := widsum_le ws fun x hx => h x (List.mem_cons_of_mem _ hx)
    have := h w List.mem_cons_self
    simp only [List.sum_cons, List.length_cons]; omega
theorem Wid.sum {ws : List Nat} (h : Wid ws) : ws.sum ≤ 512 := by
  have h1 := widsum_le ws h.2
  have h2 := h.1
  omega
/-- a row of widths, to be read in this world -/
def readsW (w : World) (g : Option Nat) (ws : List Nat) : Prop := ∀ (j x : Nat), ws[j]? = some x → ∃ b, g = some b ∧ w.cell? ⟨b, j, none⟩ = some (.int .i64 (x : Int))
theorem T.readsW {F : List Nat} {w0 w : World} {Γ : List A} {g : Option Nat} {n cap : Nat} {ws : List Nat} (hT : T F w0 w Γ) (hm : rowP 3 1 g n cap (ints ws) ∈ Γ) : readsW w g ws := by
  intro j x hx
  have hs := hT.says hm
  have hl : ws.length = n := by have := rowP.len hs; simpa [ints] using this
  have hj := (List.getElem?_eq_some_iff.1 hx).1
  obtain ⟨b, rfl⟩ := rowP.pos hs (by omega)
  exact ⟨b, rfl, rowP.cell hs (ints_get hx)⟩
theorem size_spec {ws : List Nat} (hv : Wid ws) {w : World} {g : Option Nat} {cap : Nat} (hm : readsW w g ws) : Ret Try.prog 74 #[.slice (ptr g) ws.length cap] w (.tuple #[.int .i64 (ws.sum : Int), .int .i64 0]) := by
  refine ret_of (pack_Size_calls ?_)
  unfold pack_Size
  have hs := hv.sum
  have hl := hv.1
  refine ⟨fun vs w' => w' = w ∧ ∃ i : Nat, vs = [.int .i64 (wsum ws i : Int), .int .i64 (i : Int)] ∧ i ≤ ws.length, fun vs _ => match vs with | [_, .int _ i] => (ws.length - i).toNat | _ => 0, ⟨rfl, 0, rfl, by omega⟩, ?_⟩
  rintro vs w1 ⟨rfl, i, rfl, hi⟩
  refine ⟨_, _, rfl, dec_t fun hlt => ?_, dec_f fun hge => ?_⟩
  · have hlt : i < ws.length := by omega
    obtain ⟨b, rfl, hc⟩ := hm i ws[i] (by simp [hlt])
    have hx := hv.at (i := i) (x := ws[i]) (by simp [hlt])
    have hst := wsum_step (ws := ws) (i := i) (x := ws[i]) (by simp [hlt])
    have hmx := wsum_max (ws := ws) (i + 1)
    refine ⟨_, rfl, by omega, by omega, (ws[i] : Int), by rw [addr_add, Nat.zero_add, Nat.mul_one, Int.toNat_natCast]; exact hc, no (decide_eq_false (by omega)) (no (decide_eq_false (by omega)) ⟨⟨rfl, i + 1, ?_, by omega⟩, ?_⟩)⟩
    · rw [wrap64 _ (by omega) (by omega), wrap64 _ (by omega) (by omega), hst]; simp
    · show ((ws.length : Int) - IntKind.i64.wrap ((i : Int) + 1)).toNat < ((ws.length : Int) - (i : Int)).toNat
      rw [wrap64 _ (by omega) (by omega)]; omega
  · have hie : i = ws.length := by omega
    subst hie
    rw [wsum_all ws (Nat.le_refl _)]
    exact no (decide_eq_false (by omega)) ⟨rfl, Ext.refl _⟩
theorem fits_spec (n x : Nat) (hn : n < 256 ^ x) (hx : 1 ≤ x ∧ x ≤ 8) (w : World) : Ret Try.prog 75 #[.int .u64 (n : Int), .int .i64 (x : Int)] w (.bool true) := by
  refine ret_of (pack_Fits_calls ?_)
  unfold pack_Fits
  refine ⟨fun _ => ⟨rfl, Ext.refl w⟩, fun h8 => yes (decide_eq_true (by omega)) ?_⟩
  have h8 : (x : Int) ≠ 8 := by simpa using h8
  refine yes (decide_eq_true (by omega)) ⟨by rw [wrap64 _ (by omega) (by omega)]; omega, ?_, Ext.refl w⟩
  rw [wrap64 _ (by omega) (by omega), show (8 * (x : Int)).toNat = 8 * x by omega, Nat.min_eq_left (by omega), Int.fdiv_eq_ediv_of_nonneg _ (Int.le_of_lt (Int.pow_pos (by decide)))]
  have h1 : n / 2 ^ (8 * x) = 0 := by
    rw [Nat.div_eq_of_lt]
    rw [Nat.pow_mul]; exact hn
  have h2 : ((n : Int) / 2 ^ (8 * x)) = ((n / 2 ^ (8 * x) : Nat) : Int) := by push_cast; rfl
  rw [h2, h1]
  rfl
theorem fits_not (n x : Nat) (hn : ¬ n < 256 ^ x) (hx : 1 ≤ x ∧ x ≤ 7) (w : World) : Ret Try.prog 75 #[.int .u64 (n : Int), .int .i64 (x : Int)] w (.bool false) := by
  refine ret_of (pack_Fits_calls ?_)
  unfold pack_Fits
  refine no (by simp; omega) (yes (decide_eq_true (by omega)) (yes (decide_eq_true (by omega)) ⟨by rw [wrap64 _ (by omega) (by omega)]; omega, ?_, Ext.refl w⟩))
  rw [wrap64 _ (by omega) (by omega), show (8 * (x : Int)).toNat = 8 * x by omega, Nat.min_eq_left (by omega), Int.fdiv_eq_ediv_of_nonneg _ (Int.le_of_lt (Int.pow_pos (by decide)))]
  have h1 : n / 2 ^ (8 * x) ≠ 0 := by
    intro h
    have := (Nat.div_eq_zero_iff.1 h).resolve_left (by have := Nat.two_pow_pos (8 * x); omega)
    rw [Nat.pow_mul] at this
    exact hn this
  have h2 : ((n : Int) / 2 ^ (8 * x)) = ((n / 2 ^ (8 * x) : Nat) : Int) := by push_cast; rfl
  rw [h2]
  have : (((n / 2 ^ (8 * x) : Nat) : Int) == 0) = false := by simp; omega
  rw [this]
/-- the m-th place: whose it is, how far up -/
def placeL : List Nat → Nat → List (Nat × Nat)
  | [], _ => []
  | w :: ws, i => ((List.range w).map fun k => (i, 8 * k)) ++ placeL ws (i + 1)
theorem placeL_len : ∀ (ws : List Nat) (i : Nat), (placeL ws i).length = ws.sum
  | [], _ => rfl
  | w :: ws, i => by simp [placeL, placeL_len ws (i + 1)]
theorem placeL_get : ∀ (ws : List Nat) (o i k x : Nat), ws[i]? = some x → k < x → (placeL ws o)[wsum ws i + k]? = some (o + i, 8 * k)
  | [], _, _, _, _, h, _ => by simp at h
  | w :: ws, o, 0, k, x, h, hk => by
    simp only [List.getElem?_cons_zero, Option.some.injEq] at h
    subst h
    simp only [placeL, wsum_zero, Nat.zero_add]
    rw [List.getElem?_append_left (by simpa using hk)]
    simp [hk]
  | w :: ws, o, i + 1, k, x, h, hk => by
    simp only [List.getElem?_cons_succ] at h
    simp only [placeL, wsum_cons]
    rw [List.getElem?_append_right (by simp; omega)]
    simp only [List.length_map, List.length_range]
    rw [show w + wsum ws i + k - w = wsum ws i + k by omega, placeL_get ws (o + 1) i k x h hk]
    congr 2; omega
theorem placeL_inv : ∀ (ws : List Nat) (o m : Nat), m < ws.sum → ∃ i k x, ws[i]? = some x ∧ k < x ∧ m = wsum ws i + k
  | [], _, m, h => by simp at h
  | w :: ws, o, m, h => by
    by_cases hm : m < w
    · exact ⟨0, m, w, rfl, hm, by simp [wsum]⟩
    · simp only [List.sum_cons] at h
      obtain ⟨i, k, x, h1, h2, h3⟩ := placeL_inv ws o (m - w) (by omega)
      exact ⟨i + 1, k, x, by simpa using h1, h2, by rw [wsum_cons]; omega⟩
/-- the arguments of the m-th call -/
def placeA (ws : List Nat) (m : Nat) : List Value := match (placeL ws 0)[m]? with | some (i, up) => [.int .i64 (i : Int), .int .i64 (up : Int)] | none => []
theorem placeA_get {ws : List Nat} {i k x : Nat} (h : ws[i]? = some x) (hk : k < x) : placeA ws (wsum ws i + k) = [.int .i64 (i : Int), .int .i64 ((8 * k : Nat) : Int)] := by
  unfold placeA
  rw [placeL_get ws 0 i k x h hk, Nat.zero_add]
theorem places_spec {ws : List Nat} (hv : Wid ws) {g : Option Nat} {cap : Nat} {k1 : Addr} {yv : Value} {J : Nat → World → Prop}
    (hrd : ∀ m W, J m W → W.cell? k1 = some (.slice (ptr g) ws.length cap) ∧ readsW W g ws)
    (hcall : ∀ m W, m < ws.sum → J m W → CallF Try.prog yv (placeA ws m) W fun e w' => e = .returned (.bool true) ∧ J (m + 1) w') (W : World) (h0 : J 0 W) :
    Calls Try.prog 89 #[yv, .pointer (some k1)] W fun e w' => (∃ v, e = .returned v) ∧ J ws.sum w' := by
  refine (pack_places_1_calls (R := fun v w' => J ws.sum w') ?_).mono fun e w' ⟨v, he, h⟩ => ⟨⟨v, he⟩, h⟩
  unfold pack_places_1
  have hs := hv.sum
  have hl := hv.1
  refine ⟨_, _, _, (hrd 0 W h0).1, ?_⟩
  refine ⟨fun vs w' => ∃ i : Nat, vs = [.int .i64 (i : Int)] ∧ i ≤ ws.length ∧ J (wsum ws i) w', fun vs _ => match vs with | [.int _ i] => (ws.length - i).toNat | _ => 0, ⟨0, rfl, by omega, h0⟩, ?_⟩
  rintro vs w1 ⟨i, rfl, hi, hJ⟩
  refine ⟨_, rfl, dec_t fun hlt => ?_, dec_f fun hge => ?_⟩
  · have hlt : i < ws.length := by omega
    have hx : ws[i]? = some ws[i] := by simp [hlt]
    obtain ⟨b, rfl, hc⟩ := (hrd _ _ hJ).2 i ws[i] hx
    have h8 := hv.at hx
    have hst := wsum_step hx
    have hmx := wsum_max (ws := ws) (i + 1)
    refine ⟨_, rfl, by omega, by omega, (ws[i] : Int), by rw [addr_add, Nat.zero_add, Nat.mul_one, Int.toNat_natCast]; exact hc, ?_⟩
    refine ⟨fun vs w' => ∃ k : Nat, vs = [.int .i64 (k : Int)] ∧ k ≤ ws[i] ∧ J (wsum ws i + k) w', fun vs _ => match vs with | [.int _ k] => (ws[i] - k).toNat | _ => 0, ⟨0, rfl, by omega, hJ⟩, ?_⟩
    rintro vs w2 ⟨k, rfl, hk, hJ2⟩
    refine ⟨_, rfl, dec_t fun hkl => ?_, dec_f fun hkg => ?_⟩
    · have hkl : k < ws[i] := by omega
      have ha : [Value.int .i64 (i : Int), .int .i64 (IntKind.i64.wrap (8 * (k : Int)))] = placeA ws (wsum ws i + k) := by
        rw [placeA_get hx hkl, wrap64 _ (by omega) (by omega)]
        push_cast; rfl
      rw [ha]
      have := hcall (wsum ws i + k) w2 (by omega) hJ2
      refine CallF.mono this fun e w3 ⟨he, hJ3⟩ => ⟨true, he, ?_, ?_⟩
      · intro h; cases h
      · intro _
        refine ⟨⟨k + 1, ?_, by omega, hJ3⟩, ?_⟩
        · rw [wrap64 _ (by omega) (by omega)]; rfl
        · show ((ws[i] : Int) - IntKind.i64.wrap ((k : Int) + 1)).toNat < ((ws[i] : Int) - (k : Int)).toNat
          rw [wrap64 _ (by omega) (by omega)]; omega
    · have hke : k = ws[i] := by omega
      subst hke
      rw [← hst] at hJ2
      refine ⟨⟨i + 1, ?_, by omega, hJ2⟩, ?_⟩
      · rw [wrap64 _ (by omega) (by omega)]; rfl
      · show ((ws.length : Int) - IntKind.i64.wrap ((i : Int) + 1)).toNat < ((ws.length : Int) - (i : Int)).toNat
        rw [wrap64 _ (by omega) (by omega)]; omega
  · have hie : i = ws.length := by omega
    subst hie
    rwa [wsum_all ws (Nat.le_refl _)] at hJ
end Go.Proofs.Ytdppllkjibfjcaa
end
section
/-! pack: Encode. -/
namespace Go.Proofs.Ytdppllkjibfjcaa
open Go.Sh Go.RowKit
set_option linter.unusedVariables false
set_option maxRecDepth 20000
set_option maxHeartbeats 1000000
theorem T.cell1 {F : List Nat} {w0 w : World} {Γ : List A} {e : TypeId} {g : Option Nat} {n cap i : Nat} {xs : List Value} {v : Value} (h : T F w0 w Γ) (hm : rowP e 1 g n cap xs ∈ Γ) (hv : xs[i]? = some v) :
    ∃ b, g = some b ∧ i < n ∧ w.cell? (Addr.add ⟨b, 0, none⟩ (i * 1)) = some v := by
  have hs := h.says hm
  have hl := rowP.len hs
  have hi := (List.getElem?_eq_some_iff.1 hv).1
  obtain ⟨b, rfl⟩ := rowP.pos hs (by omega)
  refine ⟨b, rfl, by omega, ?_⟩
  rw [addr_add, Nat.zero_add, Nat.mul_one]
  exact rowP.cell hs hv
theorem u64s_len (ns : List Nat) : (u64s ns).length = ns.length := List.length_map ..
theorem ints_len (ns : List Nat) : (ints ns).length = ns.length := List.length_map ..
theorem encP_take_step {ns ws : List Nat} {i k v x : Nat} (hw : ws[i]? = some x) (hn : ns[i]? = some v) (hk : k < x) : (encP ns ws).take (wsum ws i + k + 1) = (encP ns ws).take (wsum ws i + k) ++ [UInt8.ofNat (v / 2 ^ (8 * k))] := by
  rw [List.take_add_one, encP_get ns ws i k v x hw hn hk]; rfl
/-- a filler is cut off in the middle -/
theorem T.dropAt {F : List Nat} {w0 w : World} {Γ Δ : List A} {a : A} (h : T F w0 w Γ) (hk : Pick a Γ Δ) : T F w0 w Δ := (h.pick hk).drop
theorem encode_spec {ns ws : List Nat} (hv : Wid ws) (hl : ns.length = ws.length) (hf : ∀ (i n x : Nat), ns[i]? = some n → ws[i]? = some x → n < 256 ^ x) {F : List Nat} {w0 w : World} {Γ : List A} (hT : T F w0 w Γ) {g1 g2 : Option Nat} {n1 n2 c1 c2 : Nat} (hn1 : n1 = ns.length) (hn2 : n2 = ws.length)
    (hm1 : rowP 53 1 g1 n1 c1 (u64s ns) ∈ Γ) (hm2 : rowP 3 1 g2 n2 c2 (ints ws) ∈ Γ) :
    Calls Try.prog 63 #[.slice (ptr g1) n1 c1, .slice (ptr g2) n2 c2] w fun e w' => e = .returned (.tuple #[.string (strB (encP ns ws)), .int .i64 0]) ∧ T F w0 w' Γ := by
  subst hn1; subst hn2
  refine (pack_Encode_calls (R := fun v w' => v = .tuple #[.string (strB (encP ns ws)), .int .i64 0] ∧ T F w0 w' Γ) ?_).mono fun e w' ⟨v, he, hv, h⟩ => ⟨by rw [he, hv], h⟩
  unfold pack_Encode
  have hs := hv.sum
  have hw64 := hv.1
  refine Alloc.t hT fun k2 w1 h1 => ?_
  refine (size_spec hv (T.readsW h1 (List.mem_cons_of_mem _ hm2))).mono fun e w2 ⟨he, hx⟩ => ⟨_, _, he, no rfl ?_⟩
  have h2 := h1.quiet hx
  refine ⟨_, _, _, h2.ld List.mem_cons_self rfl, no (by rw [hl]; simp) ?_⟩
  refine ⟨fun vs w' => ∃ i : Nat, vs = [.string (ByteArray.mk #[]), .int .i64 0, .int .i64 (i : Int)] ∧ i ≤ ws.length ∧ T F w0 w' (blk k2 #[.slice (ptr g1) ns.length c1] 94 :: Γ), fun vs _ => match vs with | [_, _, .int _ i] => (ws.length - i).toNat | _ => 0, ⟨0, rfl, by omega, h2⟩, ?_⟩
  rintro vs w3 ⟨i, rfl, hi, h3⟩
  refine ⟨_, _, _, rfl, dec_t fun hlt => ?_, dec_f fun hge => ?_⟩
  · have hlt : i < ws.length := by omega
    have hx : ws[i]? = some ws[i] := by simp [hlt]
    have hn : ns[i]? = some (ns[i]'(by omega)) := by simp [hl, hlt]
    obtain ⟨b2, rfl, _, hc2⟩ := T.cell1 h3 (List.mem_cons_of_mem _ hm2) (ints_get hx)
    obtain ⟨b1, rfl, _, hc1⟩ := T.cell1 h3 (List.mem_cons_of_mem _ hm1) (u64s_get hn)
    refine ⟨_, rfl, by omega, by omega, _, by rw [Int.toNat_natCast]; exact hc2, _, _, _, h3.ld List.mem_cons_self rfl, _, rfl, by omega, by omega, _, by rw [Int.toNat_natCast]; exact hc1, ?_⟩
    refine (fits_spec _ _ (hf i _ _ hn hx) (hv.at hx) w3).mono fun e w4 ⟨he, hx4⟩ => ⟨_, he, fun h => (by cases h), fun _ => ⟨⟨i + 1, ?_, by omega, h3.quiet hx4⟩, ?_⟩⟩
    · rw [wrap64 _ (by omega) (by omega)]; rfl
    · show ((ws.length : Int) - IntKind.i64.wrap ((i : Int) + 1)).toNat < ((ws.length : Int) - (i : Int)).toNat
      rw [wrap64 _ (by omega) (by omega)]; omega
  · obtain ⟨k4, w5, hmk, h5⟩ := make_t (P := Try.prog) (t := 30) (e := 5) (i := Try.t5) (z := .int .u8 0) (kl := .i64) (kc := .i64) (n := 0) (c := (ws.sum : Int)) (by kernel_rfl) (by kernel_rfl) (by kernel_rfl) (by kernel_rfl) (by rfl) (by kernel_rfl) (by omega) (by omega) (by omega) h3
    simp only [Int.toNat_zero, Int.toNat_natCast] at hmk h5
    refine ⟨_, _, _, w5, hmk, ?_⟩
    refine Alloc.t h5 fun k10 w6 h6 => St.t h6 .head (by simp) (by rfl) rfl fun w7 h7 => ?_
    refine (pack_places_calls (R := fun v w' => ∃ k1, v = .func (.func 89) #[] #[.pointer (some ⟨k1, 0, none⟩)] ∧ T F w0 w' (blk k1 #[.slice (ptr g2) ws.length c2] 101 :: blk k10 #[.slice (ptr (some k4)) 0 ws.sum] 30 :: rowP 5 1 (some k4) 0 ws.sum [] :: blk k2 #[.slice (ptr g1) ns.length c1] 94 :: Γ)) ?_).mono ?_
    · unfold pack_places
      exact Alloc.t h7 fun k1 w8 h8 => ⟨k1, rfl, h8⟩
    · rintro e w8 ⟨v, he, k1, rfl, h8⟩
      refine ⟨_, he, ?_⟩
      refine RangeP.t (by kernel_rfl) h8 (N := ws.sum) (arg := placeA ws)
        (Inv := fun m Γm => ∃ g cap, Γm = blk k1 #[.slice (ptr g2) ws.length c2] 101 :: blk k10 #[.slice (ptr g) m cap] 30 :: rowP 5 1 g m cap (bvals ((encP ns ws).take m)) :: blk k2 #[.slice (ptr g1) ns.length c1] 94 :: Γ)
        ⟨some k4, ws.sum, rfl⟩ ?_ ?_ ?_
      · intro yv J hJ hc W hW
        refine places_spec hv (J := J) (g := g2) (cap := c2) (fun m W hm => ?_) hc W hW
        obtain ⟨Γk, x, y, ⟨g, cap, rfl⟩, h⟩ := hJ m W hm
        exact ⟨h.ld (List.mem_cons_of_mem _ (List.mem_cons_of_mem _ List.mem_cons_self)) rfl, T.readsW h (List.mem_cons_of_mem _ (List.mem_cons_of_mem _ (List.mem_cons_of_mem _ (List.mem_cons_of_mem _ (List.mem_cons_of_mem _ (List.mem_cons_of_mem _ hm2))))))⟩
      · rintro obf l d m Γk W Φ hm ⟨g, cap, rfl⟩ hW hΦ
        obtain ⟨i, k, x, hx, hk, rfl⟩ := placeL_inv ws 0 m hm
        have h8 := hv.at hx
        have hil : i < ws.length := (List.getElem?_eq_some_iff.1 hx).1
        have hn : ns[i]? = some (ns[i]'(by omega)) := by simp [hl, hil]
        generalize ns[i]'(by omega) = v at hn
        rw [placeA_get hx hk]
        refine ⟨_, _, rfl, ?_⟩
        refine RoundP.t hW (G := fun Γ' => ∃ Γ'', Γ' = ob d (.deferred (some [])) :: Γ'' ∧ ∃ g cap, Γ'' = blk k1 #[.slice (ptr g2) ws.length c2] 101 :: blk k10 #[.slice (ptr g) (wsum ws i + k + 1) cap] 30 :: rowP 5 1 g (wsum ws i + k + 1) cap (bvals ((encP ns ws).take (wsum ws i + k + 1))) :: blk k2 #[.slice (ptr g1) ns.length c1] 94 :: Γ) ?_ ?_
        · rintro Γ' w' ⟨Γ'', rfl, hi'⟩ h'
          exact hΦ Γ'' w' hi' h'
        · intro K X R w9 h9 hK
          obtain ⟨b1, rfl, _, _⟩ := T.cell1 h9 (List.mem_cons_of_mem _ (List.mem_cons_of_mem _ (List.mem_cons_of_mem _ (List.mem_cons_of_mem _ (List.mem_cons_of_mem _ (List.mem_cons_of_mem _ hm1)))))) (u64s_get hn)
          have hD : ∀ {w : World} {Γ' : List A}, T F w0 w Γ' → blk k10 #[.slice (ptr g) (wsum ws i + k) cap] 30 ∈ Γ' → blk k2 #[.slice (ptr (some b1)) ns.length c1] 94 ∈ Γ' → rowP 53 1 (some b1) ns.length c1 (u64s ns) ∈ Γ' →
              (w.cell? ⟨k10, 0, none⟩ = some (.slice (ptr g) (wsum ws i + k) cap) ∧ w.cell? ⟨k2, 0, none⟩ = some (.slice (ptr (some b1)) ns.length c1) ∧ w.cell? (Addr.add ⟨b1, 0, none⟩ (i * 1)) = some (.int .u64 (v : Int))) := by
            intro w Γ' h m1 m2 m3
            obtain ⟨b', hb', _, hc⟩ := T.cell1 h m3 (u64s_get hn)
            cases hb'
            exact ⟨h.ld m1 rfl, h.ld m2 rfl, hc⟩
          have hbyte : IntKind.u8.wrap (Int.fdiv (v : Int) (2 ^ (min ((8 * k : Nat) : Int).toNat 64))) = ((UInt8.ofNat (v / 2 ^ (8 * k))).toNat : Int) := by
            rw [Int.toNat_natCast, Nat.min_eq_left (by omega), Int.fdiv_eq_ediv_of_nonneg _ (Int.le_of_lt (Int.pow_pos (by decide))), wrap8]
            have : ((v : Int) / 2 ^ (8 * k)) = ((v / 2 ^ (8 * k) : Nat) : Int) := by push_cast; rfl
            rw [this]
            simp
          have hmx := wsum_max (ws := ws) (i + 1)
          have hst := wsum_step hx
          refine ⟨fun w => w.cell? ⟨k10, 0, none⟩ = some (.slice (ptr g) (wsum ws i + k) cap) ∧ w.cell? ⟨k2, 0, none⟩ = some (.slice (ptr (some b1)) ns.length c1) ∧ w.cell? (Addr.add ⟨b1, 0, none⟩ (i * 1)) = some (.int .u64 (v : Int)), hD h9.drew (by repeat (first | exact List.Mem.head _ | refine List.Mem.tail _ ?_)) (by repeat (first | exact List.Mem.head _ | refine List.Mem.tail _ ?_)) (by repeat (first | exact hm1 | refine List.mem_cons_of_mem _ ?_)),
            _, _, _, fun w h => h.1, _, _, _, fun w h => h.2.1, _, rfl, by omega, by omega, _, fun w h => by rw [Int.toNat_natCast]; exact h.2.2, by omega, ?_⟩
          rw [hbyte]
          refine Alloc.t h9.drew fun k57 w10 h10 => ⟨hD h10 (by repeat (first | exact List.Mem.head _ | refine List.Mem.tail _ ?_)) (by repeat (first | exact List.Mem.head _ | refine List.Mem.tail _ ?_)) (by repeat (first | exact hm1 | refine List.mem_cons_of_mem _ ?_)), ?_⟩
          obtain ⟨g', cap', w11, hr, h11⟩ := append_t (P := Try.prog) (t := 30) (ty := 30) (e := 5) (i := Try.t5) (z := .int .u8 0) (size := 1) #[false, false] (by kernel_rfl) (by kernel_rfl) (by kernel_rfl) (by kernel_rfl) (by rfl)
            h10 (.tail (.tail (.tail (.tail (.tail .head))))) (a := ⟨k57, 0, none⟩) (m := 1) (c := 1) (news := bvals [UInt8.ofNat (v / 2 ^ (8 * k))]) rfl (fun j u hu => by
              rw [addr_add, Nat.zero_add]
              exact h10.ld (by repeat (first | exact List.Mem.head _ | refine List.Mem.tail _ ?_)) (by simpa [bvals] using hu)) (bvals_one _) (by simp only [maxLen]; omega)
            (by have : (Try.t5).bytes = 1 := by kernel_rfl
                rw [this]; omega)
          rw [bvals_append, ← encP_take_step hx hn hk] at h11
          refine ⟨_, _, _, w11, hr, hD h11 (by repeat (first | exact List.Mem.head _ | refine List.Mem.tail _ ?_)) (by repeat (first | exact List.Mem.head _ | refine List.Mem.tail _ ?_)) (by repeat (first | exact hm1 | refine List.mem_cons_of_mem _ ?_)), ?_⟩
          refine St.t h11 (by repeat (first | exact Turn.head | apply Turn.tail)) (by simp) (by rfl) rfl fun w12 h12 => hK (ob d (.deferred (some [])) :: _) w12 ⟨_, rfl, g', cap', rfl⟩ ?_
          exact (T.dropAt h12 (.tail .head)).swap (Pick.perm (.tail (.tail (.tail (.tail .head))))).symm
      · rintro d Γ' w' ⟨g, cap, rfl⟩ h'
        rw [List.take_of_length_le (by rw [encP_len ns ws hl]; exact Nat.le_refl _)] at h'
        refine ⟨_, _, _, h'.ld (by repeat (first | exact List.Mem.head _ | refine List.Mem.tail _ ?_)) rfl, _, w', row_string h' (by repeat (first | exact List.Mem.head _ | refine List.Mem.tail _ ?_)), ?_⟩
        exact shut_mark (Q := fun w2 => _ = _ ∧ T F w0 w2 Γ) h' fun w2 h2 => ⟨rfl, h2.drop.drop.drop.drop⟩
end Go.Proofs.Ytdppllkjibfjcaa
end
section
/-! pack: Decode. -/
namespace Go.Proofs.Ytdppllkjibfjcaa
open Go.Sh Go.RowKit
set_option linter.unusedVariables false
set_option maxRecDepth 20000
set_option maxHeartbeats 1000000
def curL (s : List UInt8) (ws : List Nat) (m : Nat) : List Nat := (List.range ws.length).map (curP s ws m)
theorem curL_len (s : List UInt8) (ws : List Nat) (m : Nat) : (curL s ws m).length = ws.length := by simp [curL]
theorem curL_get (s : List UInt8) (ws : List Nat) (m : Nat) {i : Nat} (hi : i < ws.length) : (curL s ws m)[i]? = some (curP s ws m i) := by simp [curL, hi]
theorem curL_zero (s : List UInt8) (ws : List Nat) : u64s (curL s ws 0) = List.replicate ws.length (Value.int .u64 0) := by
  unfold u64s curL
  rw [List.map_map]
  apply List.ext_getElem?
  intro j
  rw [List.getElem?_replicate]
  by_cases hj : j < ws.length
  · simp [hj, curP_zero]
  · simp [hj]
theorem curL_all (s : List UInt8) (ws : List Nat) : curL s ws ws.sum = decP s ws := by
  apply List.ext_getElem?
  intro j
  by_cases hj : j < ws.length
  · have h : ws[j]? = some ws[j] := by simp [hj]
    rw [curL_get s ws _ hj, decP_get ws s j _ h, curP_all s h]
  · rw [List.getElem?_eq_none (by rw [curL_len]; omega), List.getElem?_eq_none (by rw [decP_len]; omega)]
theorem curL_step (s : List UInt8) {ws : List Nat} {i k x : Nat} (h : ws[i]? = some x) (hk : k < x) : (u64s (curL s ws (wsum ws i + k))).set i (.int .u64 (curP s ws (wsum ws i + k + 1) i : Int)) = u64s (curL s ws (wsum ws i + k + 1)) := by
  have hi := (List.getElem?_eq_some_iff.1 h).1
  apply List.ext_getElem?
  intro j
  rw [List.getElem?_set]
  by_cases hj : j < ws.length
  · rw [u64s_get (curL_get s ws (wsum ws i + k + 1) hj)]
    split
    · rename_i e; subst e
      rw [if_pos (by rw [u64s_len, curL_len]; exact hi)]
    · rename_i e
      rw [u64s_get (curL_get s ws (wsum ws i + k) hj), curP_other s h hk (fun e' => e e'.symm)]
  · rw [if_neg (by omega), List.getElem?_eq_none (by rw [u64s_len, curL_len]; omega), List.getElem?_eq_none (by rw [u64s_len, curL_len]; omega)]
theorem decode_spec {ws : List Nat} (hv : Wid ws) {s : ByteArray} (hsz : s.size = ws.sum) {F : List Nat} {w0 w : World} {Γ : List A} (hT : T F w0 w Γ) {g2 : Option Nat} {n2 c2 : Nat} (hn2 : n2 = ws.length)
    (hm2 : rowP 3 1 g2 n2 c2 (ints ws) ∈ Γ) :
    Calls Try.prog 80 #[.string s, .slice (ptr g2) n2 c2] w fun e w' => ∃ b, e = .returned (.tuple #[.slice (ptr (some b)) ws.length ws.length, .int .i64 0]) ∧ T F w0 w' (rowP 53 1 (some b) ws.length ws.length (u64s (decP s.data.toList ws)) :: Γ) := by
  subst hn2
  refine (pack_Decode_calls (R := fun v w' => ∃ b, v = .tuple #[.slice (ptr (some b)) ws.length ws.length, .int .i64 0] ∧ T F w0 w' (rowP 53 1 (some b) ws.length ws.length (u64s (decP s.data.toList ws)) :: Γ)) ?_).mono fun e w' ⟨v, he, b, hv, h⟩ => ⟨b, by rw [he, hv], h⟩
  unfold pack_Decode
  have hs := hv.sum
  have hw64 := hv.1
  have hlen : s.data.toList.length = ws.sum := by rw [Array.length_toList]; exact hsz
  refine Alloc.t hT fun k2 w1 h1 => ?_
  refine (size_spec hv (T.readsW h1 (List.mem_cons_of_mem _ hm2))).mono fun e w2 ⟨he, hx⟩ => ⟨_, _, he, no rfl ?_⟩
  have h2 := h1.quiet hx
  refine ⟨_, h2.ld List.mem_cons_self rfl, no (by rw [hsz]; simp) ?_⟩
  obtain ⟨k5, w3, hmk, h3⟩ := make_t (P := Try.prog) (t := 94) (e := 53) (i := Try.t53) (z := .int .u64 0) (kl := .i64) (kc := .i64) (n := (ws.length : Int)) (c := (ws.length : Int)) (by kernel_rfl) (by kernel_rfl) (by kernel_rfl) (by kernel_rfl) (by rfl) (by kernel_rfl) (by omega) (by omega) (by omega) h2
  simp only [Int.toNat_natCast] at hmk h3
  have h3 : T F w0 w3 (rowP 53 1 (some k5) ws.length ws.length (u64s (curL s.data.toList ws 0)) :: blk k2 #[.string (strB (s.data.toList.drop 0))] 9 :: Γ) := by
    rw [curL_zero, List.drop_zero, strB_list]; exact h3
  refine ⟨_, _, _, w3, hmk, ?_⟩
  refine Alloc.t h3 fun k8 w4 h4 => St.t h4 .head (by simp) (by rfl) rfl fun w5 h5 => ?_
  refine (pack_places_calls (R := fun v w' => ∃ k1, v = .func (.func 89) #[] #[.pointer (some ⟨k1, 0, none⟩)] ∧ T F w0 w' (blk k1 #[.slice (ptr g2) ws.length c2] 101 :: blk k8 #[.slice (ptr (some k5)) ws.length ws.length] 94 :: rowP 53 1 (some k5) ws.length ws.length (u64s (curL s.data.toList ws 0)) :: blk k2 #[.string (strB (s.data.toList.drop 0))] 9 :: Γ)) ?_).mono ?_
  · unfold pack_places
    exact Alloc.t h5 fun k1 w8 h8 => ⟨k1, rfl, h8⟩
  · rintro e w8 ⟨v, he, k1, rfl, h8⟩
    refine ⟨_, he, ?_⟩
    refine RangeP.t (by kernel_rfl) h8 (N := ws.sum) (arg := placeA ws)
      (Inv := fun m Γm => Γm = blk k1 #[.slice (ptr g2) ws.length c2] 101 :: blk k8 #[.slice (ptr (some k5)) ws.length ws.length] 94 :: rowP 53 1 (some k5) ws.length ws.length (u64s (curL s.data.toList ws m)) :: blk k2 #[.string (strB (s.data.toList.drop m))] 9 :: Γ)
      rfl ?_ ?_ ?_
    · intro yv J hJ hc W hW
      refine places_spec hv (J := J) (g := g2) (cap := c2) (fun m W hm => ?_) hc W hW
      obtain ⟨Γk, x, y, rfl, h⟩ := hJ m W hm
      exact ⟨h.ld (by repeat (first | exact List.Mem.head _ | refine List.Mem.tail _ ?_)) rfl, T.readsW h (by repeat (first | exact hm2 | refine List.mem_cons_of_mem _ ?_))⟩
    · rintro obf l d m Γk W Φ hm rfl hW hΦ
      obtain ⟨i, k, x, hx, hk, rfl⟩ := placeL_inv ws 0 m hm
      have hx8 := hv.at hx
      have hil : i < ws.length := (List.getElem?_eq_some_iff.1 hx).1
      rw [placeA_get hx hk]
      refine ⟨_, _, rfl, ?_⟩
      refine RoundP.t hW (G := fun Γ' => Γ' = ob d (.deferred (some [])) :: blk k1 #[.slice (ptr g2) ws.length c2] 101 :: blk k8 #[.slice (ptr (some k5)) ws.length ws.length] 94 :: rowP 53 1 (some k5) ws.length ws.length (u64s (curL s.data.toList ws (wsum ws i + k + 1))) :: blk k2 #[.string (strB (s.data.toList.drop (wsum ws i + k + 1)))] 9 :: Γ) ?_ ?_
      · rintro Γ' w' rfl h'
        exact hΦ _ w' rfl h'
      · intro K X R w9 h9 hK
        have hb : s.data.toList[wsum ws i + k]? = some (s.data.toList[wsum ws i + k]'(by omega)) := by simp [hlen, hm]
        generalize s.data.toList[wsum ws i + k]'(by omega) = b at hb
        have hd0 : (s.data.toList.drop (wsum ws i + k)).getD 0 0 = b := by simp [List.getD, hb]
        have hdl : (strB (s.data.toList.drop (wsum ws i + k))).size = ws.sum - (wsum ws i + k) := by rw [strB_size, List.length_drop, hlen]
        obtain ⟨hst, hlt⟩ := curP_step hx hk hb
        have hbb := b.toNat_lt
        have hp : (256 : Nat) ^ k = 2 ^ (8 * k) := by rw [Nat.pow_mul]
        rw [hp] at hst hlt
        have hval : curP s.data.toList ws (wsum ws i + k) i + b.toNat * 2 ^ (8 * k) < 18446744073709551616 := by
          have h1 : b.toNat * 2 ^ (8 * k) ≤ 255 * 2 ^ (8 * k) := Nat.mul_le_mul_right _ (by omega)
          have h2 : (2 : Nat) ^ (8 * k) ≤ 2 ^ 56 := Nat.pow_le_pow_right (by decide) (by omega)
          have h3 : (2 : Nat) ^ 56 = 72057594037927936 := by decide
          omega
        have hwr : IntKind.u64.wrap (IntKind.u64.wrap ((b.toNat : Nat) : Int) * 2 ^ (min ((8 * k : Nat) : Int).toNat 64)) = ((b.toNat * 2 ^ (8 * k) : Nat) : Int) := by
          rw [Int.toNat_natCast, Nat.min_eq_left (by omega)]
          have e1 : IntKind.u64.wrap ((b.toNat : Nat) : Int) = ((b.toNat : Nat) : Int) := by rw [wrapU64]; omega
          have e2 : ((b.toNat : Nat) : Int) * 2 ^ (8 * k) = ((b.toNat * 2 ^ (8 * k) : Nat) : Int) := by push_cast; rfl
          rw [e1, e2, wrapU64]; omega
        have hor := or64 hlt hval
        refine ⟨fun w => T F w0 w _, h9.drew, _, _, _, fun w h => h.ld (by repeat (first | exact List.Mem.head _ | refine List.Mem.tail _ ?_)) rfl, _, rfl, by omega, by omega, (curP s.data.toList ws (wsum ws i + k) i : Int), fun w h => ?_, _, fun w h => h.ld (by repeat (first | exact List.Mem.head _ | refine List.Mem.tail _ ?_)) rfl, ((b.toNat : Nat) : Int), fun w h => ?_, by omega, _, rfl, by omega, by omega, ?_⟩
        · obtain ⟨b', hb', _, hc⟩ := T.cell1 h (e := 53) (g := some k5) (n := ws.length) (cap := ws.length) (i := i) (by repeat (first | exact List.Mem.head _ | refine List.Mem.tail _ ?_)) (u64s_get (curL_get s.data.toList ws (wsum ws i + k) hil))
          cases hb'
          rw [Int.toNat_natCast]; exact hc
        · have := index_str (P := Try.prog) (t := 9) (k := .i64) (n := 0) (s := strB (s.data.toList.drop (wsum ws i + k))) (w := w) (by kernel_rfl) (by omega) (by rw [hdl]; omega)
          rw [this]
          congr 4
        · rw [hwr, hor, ← hst, Int.toNat_natCast, addr_add, Nat.zero_add, Nat.mul_one]
          refine StRow.t h9.drew (.tail (.tail (.tail (.tail .head)))) (by rw [u64s_len, curL_len]; exact hil) rfl fun w10 h10 => ?_
          rw [curL_step s.data.toList hx hk] at h10
          refine ⟨_, h10.ld (by repeat (first | exact List.Mem.head _ | refine List.Mem.tail _ ?_)) rfl, _, _, slice_from (by kernel_rfl) (by omega) (by rw [hdl]; omega), ?_⟩
          have hex : (strB (s.data.toList.drop (wsum ws i + k))).extract (1 : Int).toNat (strB (s.data.toList.drop (wsum ws i + k))).size = strB (s.data.toList.drop (wsum ws i + k + 1)) := by
            rw [strB_extract, strB_size, List.drop_drop, List.take_of_length_le (by simp; omega)]
            rfl
          rw [hex]
          refine St.t h10 (by repeat (first | exact Turn.head | apply Turn.tail)) (by simp) (by rfl) rfl fun w11 h11 => hK _ w11 rfl ?_
          exact h11.swap (Pick.perm (.tail (.tail (.tail (.tail .head))))).symm
    · rintro d Γ' w' rfl h'
      rw [curL_all] at h'
      refine ⟨_, _, _, h'.ld (by repeat (first | exact List.Mem.head _ | refine List.Mem.tail _ ?_)) rfl, ?_⟩
      refine shut_mark (Q := fun w2 => ∃ b, (Value.tuple #[.slice (ptr (some k5)) ws.length ws.length, .int .i64 0]) = .tuple #[.slice (ptr (some b)) ws.length ws.length, .int .i64 0] ∧ T F w0 w2 (rowP 53 1 (some b) ws.length ws.length (u64s (decP s.data.toList ws)) :: Γ)) h' fun w2 h2 => ⟨k5, rfl, T.dropAt h2.drop.drop (.tail .head)⟩
end Go.Proofs.Ytdppllkjibfjcaa
end
section
/-! layout.Check (out of the layout's text). -/
namespace Go.Proofs.Ytdppllkjibfjcaa
open Go.Sh
set_option linter.unusedVariables false
/-- a geometry that may be -/
def OkG (c k r : Int) : Prop := 4 ≤ c ∧ c ≤ 10 ∧ 1 ≤ k ∧ k ≤ 4 ∧ 1 ≤ r ∧ r ≤ 256
instance (c k r : Int) : Decidable (OkG c k r) := by unfold OkG; infer_instance
theorem index3 (x0 x1 x2 x3 x4 x5 x6 x7 x8 : Value) (w : World) (i : Int) (hi : i = 0 ∨ i = 1 ∨ i = 2) :
    (Instr.index 134 (.agg #[x0, x1, x2, x3, x4, x5, x6, x7, x8]) (.int .i64 i)).run Try.prog w = .ok (if i = 0 then .agg #[x0, x1, x2] else if i = 1 then .agg #[x3, x4, x5] else .agg #[x6, x7, x8]) w := by
  rcases hi with rfl | rfl | rfl <;> kernel_rfl
def CheckI (c k r : Int) (w : World) (vs : List Value) (w' : World) : Prop := ∃ i : Nat, vs = [.int .i64 i] ∧ i ≤ 3 ∧ Ext w w' ∧ (1 ≤ i → 4 ≤ c ∧ c ≤ 10) ∧ (2 ≤ i → 1 ≤ k ∧ k ≤ 4) ∧ (3 ≤ i → 1 ≤ r ∧ r ≤ 256)
def CheckM (vs : List Value) (_ : World) : Nat := match vs with | [.int _ i] => 3 - i.toNat | _ => 0
theorem checkI_next {c k r : Int} {w w' : World} (i : Nat) (hx : Ext w w') (hi : i < 3) (h1 : 4 ≤ c ∧ c ≤ 10) (h2 : 1 ≤ i → 1 ≤ k ∧ k ≤ 4) (h3 : 2 ≤ i → 1 ≤ r ∧ r ≤ 256) :
    CheckI c k r w [.int .i64 (IntKind.i64.wrap ((i : Int) + 1))] w' :=
  ⟨i + 1, by rw [wrap64 _ (by omega) (by omega)]; rfl, by omega, hx, fun _ => h1, fun h => h2 (by omega), fun h => h3 (by omega)⟩
theorem checkM_next (i : Nat) (w w' : World) (hi : i < 3) : CheckM [.int .i64 (IntKind.i64.wrap ((i : Int) + 1))] w' < CheckM [.int .i64 i] w := by
  rw [wrap64 _ (by omega) (by omega)]; simp only [CheckM]; omega
theorem check_spec (c k r : Int) (w : World) : Ret Try.prog 73 #[.agg #[.int .i64 c, .int .i64 k, .int .i64 r]] w (.int .i64 (if OkG c k r then 0 else 1)) := by
  refine ret_of (layout_Check_calls ?_)
  unfold layout_Check
  have hS := S.start w
  refine Alloc.s hS fun b w1 hS1 => ?_
  refine ⟨_, hS1.ld (by repeat (first | exact List.Mem.head _ | refine List.Mem.tail _ ?_)) rfl, _, hS1.ld (by repeat (first | exact List.Mem.head _ | refine List.Mem.tail _ ?_)) rfl, _, hS1.ld (by repeat (first | exact List.Mem.head _ | refine List.Mem.tail _ ?_)) rfl, ?_⟩
  refine ⟨CheckI c k r w, CheckM, ⟨0, rfl, by omega, hS1.ext, by omega, by omega, by omega⟩, ?_⟩
  · rintro vs w' ⟨i, rfl, hi, hx, h1, h2, h3⟩
    refine ⟨_, rfl, fun hlt => ?_, fun hge => ?_⟩
    · have hlt' : (i : Int) < 3 := of_decide_eq_true hlt
      have hS' : S w w' [] := ⟨hx, by simp, fun p h => by cases h⟩
      have hi' : i = 0 ∨ i = 1 ∨ i = 2 := by omega
      rcases hi' with rfl | rfl | rfl
      all_goals
        refine ⟨_, _, _, _, index3 _ _ _ _ _ _ _ _ _ _ _ (by omega), ?_⟩
        repeat' (first | (refine Alloc.s (by assumption) ?_; intro _ _ _) | (refine St.s (by assumption) (by repeat (first | exact Upd.head | apply Upd.tail)) (by simp) (by rfl) rfl ?_; intro _ _) | (exact S.ld (by assumption) (by repeat (first | exact List.Mem.head _ | refine List.Mem.tail _ ?_)) (by rfl)) | (refine lex_s (by assumption) ?_; intro _) | (refine Join.intro fun J hJ => ?_) | (refine hJ _ _ ?_) | (refine ⟨_, _, min_run _ _ _ _ _ _, ?_⟩) | (refine ⟨_, _, max_run _ _ _ _ _ _, ?_⟩) | (refine dec_t ?_; intro _) | (refine dec_f ?_; intro _) | (refine not_t ?_) | (refine not_f ?_) | (refine beq_t ?_; intro _) | (refine beq_f ?_; intro _) | (refine bne_t ?_; intro _) | (refine bne_f ?_; intro _) | (with_reducible apply Exists.intro) | (exact rfl) | (exact S.ext (by assumption)) | (show (_ : Int) ≤ _; omega) | (show (_ : Int) < _; omega) | (show (_ : Int) ≠ _; omega) | (with_reducible apply And.intro) | (intro _) | (assumption))
        all_goals first
          | (refine retInt ?_; rw [if_neg (by unfold OkG; omega)])
          | (refine checkI_next _ (S.ext (by assumption)) (by omega) ?_ ?_ ?_ <;> omega)
          | (exact checkM_next _ _ _ (by omega))
    · have hge' : ¬ (i : Int) < 3 := of_decide_eq_false hge
      have : i = 3 := by omega
      subst this
      refine ⟨?_, hx⟩
      have := h1 (by omega); have := h2 (by omega); have := h3 (by omega)
      rw [if_pos (by unfold OkG; omega)]
end Go.Proofs.Ytdppllkjibfjcaa
end
