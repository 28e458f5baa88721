import Derived.Test.YtdppllkjibfjcaaCode2
import Derived.Test.YtdppllkjibfjcaaMem7
/-! crc: numbers of 32 bits, bit by bit. -/
namespace Go.Proofs.Ytdppllkjibfjcaa
open Go.Sh Go.RowKit
set_option linter.unusedVariables false
set_option maxRecDepth 20000
set_option maxHeartbeats 1000000
abbrev B32 := BitVec 32
/-- a number of 32 bits, as a value -/
abbrev u32v (x : B32) : Value := .int .u32 (x.toNat : Int)
theorem wrap32 (n : Int) (h : 0 ≤ n) (h' : n < 4294967296) : IntKind.u32.wrap n = n := by
  have e : IntKind.u32.wrap n = n % 4294967296 := by simp [IntKind.wrap, IntKind.bits, IntKind.signed]
  rw [e]; omega
theorem wrap8 (n : Int) : IntKind.u8.wrap n = n % 256 := by simp [IntKind.wrap, IntKind.bits, IntKind.signed]
theorem wrapU64 (n : Int) : IntKind.u64.wrap n = n % 18446744073709551616 := by simp [IntKind.wrap, IntKind.bits, IntKind.signed]
theorem ofInt32 (x : B32) : BitVec.ofInt 32 (x.toNat : Int) = x := by
  apply BitVec.eq_of_toNat_eq
  simp
theorem b32_lt (x : B32) : (x.toNat : Int) < 4294967296 := by have := x.isLt; omega
theorem xor32 (x y : B32) : bits2 .xor .u32 (x.toNat : Int) (y.toNat : Int) = ((x ^^^ y).toNat : Int) := by
  unfold bits2
  simp only [IntKind.bits, ofInt32]
  exact wrap32 _ (by omega) (b32_lt _)
theorem and32 (x y : B32) : bits2 .and .u32 (x.toNat : Int) (y.toNat : Int) = ((x &&& y).toNat : Int) := by
  unfold bits2
  simp only [IntKind.bits, ofInt32]
  exact wrap32 _ (by omega) (b32_lt _)
theorem shr32 (x : B32) (k : Nat) : Int.fdiv (x.toNat : Int) (2 ^ k) = ((x >>> k).toNat : Int) := by
  rw [BitVec.toNat_ushiftRight, Nat.shiftRight_eq_div_pow, Int.fdiv_eq_ediv_of_nonneg _ (Int.le_of_lt (Int.pow_pos (by decide)))]
  push_cast
  rfl
def poly : B32 := 0x82f63b78#32
/-- one bit -/
def step1 (x : B32) : B32 := (x >>> 1) ^^^ (poly * (x &&& 1#32))
def step4 (x : B32) : B32 := step1 (step1 (step1 (step1 x)))
theorem step1_bit (x : B32) : step1 x = (x >>> 1) ^^^ (if x.getLsbD 0 then poly else 0#32) := by
  unfold step1
  congr 1
  have h : x &&& 1#32 = if x.getLsbD 0 then 1#32 else 0#32 := by
    apply BitVec.eq_of_getLsbD_eq
    intro i hi
    by_cases h0 : i = 0
    · subst h0
      rw [BitVec.getLsbD_and]
      cases hx : x.getLsbD 0 <;> rfl
    · have h1 : (1#32).getLsbD i = false := by
        rw [BitVec.getLsbD_one]; simp; omega
      rw [BitVec.getLsbD_and, h1, Bool.and_false]
      split
      · exact h1.symm
      · simp
  rw [h]
  split
  · exact BitVec.mul_one ..
  · exact BitVec.mul_zero ..
theorem step1_xor (x y : B32) : step1 (x ^^^ y) = step1 x ^^^ step1 y := by
  rw [step1_bit, step1_bit, step1_bit]
  apply BitVec.eq_of_getLsbD_eq
  intro i hi
  simp only [BitVec.getLsbD_xor, BitVec.getLsbD_ushiftRight]
  cases x.getLsbD 0 <;> cases y.getLsbD 0 <;> simp <;> (try (generalize poly.getLsbD i = p)) <;> (generalize x.getLsbD (1 + i) = a) <;> (generalize y.getLsbD (1 + i) = b) <;> revert a b <;> simp <;> (try (revert p; decide)) <;> (try decide)
theorem step4_xor (x y : B32) : step4 (x ^^^ y) = step4 x ^^^ step4 y := by simp only [step4, step1_xor]
theorem step1_even {x : B32} (h : x.getLsbD 0 = false) : step1 x = x >>> 1 := by rw [step1_bit, h]; simp
theorem step4_high (x : B32) : step4 (x &&& 0xfffffff0#32) = x >>> 4 := by
  have hg : ∀ i, (x &&& 0xfffffff0#32).getLsbD i = (decide (4 ≤ i) && x.getLsbD i) := by
    intro i
    rw [BitVec.getLsbD_and]
    by_cases hi : i < 32
    · have : (0xfffffff0#32).getLsbD i = decide (4 ≤ i) := by
        have : ∀ i : Fin 32, (0xfffffff0#32).getLsbD i.val = decide (4 ≤ i.val) := by decide
        exact this ⟨i, hi⟩
      rw [this, Bool.and_comm]
    · rw [BitVec.getLsbD_of_ge _ _ (by omega)]; simp
  generalize hy : x &&& 0xfffffff0#32 = y at hg
  have s : ∀ (k : Nat) (z : B32), k < 4 → (∀ i, z.getLsbD i = (decide (4 ≤ k + i) && x.getLsbD (k + i))) → ∀ i, (step1 z).getLsbD i = (decide (4 ≤ k + 1 + i) && x.getLsbD (k + 1 + i)) := by
    intro k z hk hz i
    rw [step1_even (by rw [hz, decide_eq_false (by omega), Bool.false_and]), BitVec.getLsbD_ushiftRight, hz, show k + (1 + i) = k + 1 + i by omega]
  have h := s 3 _ (by decide) (s 2 _ (by decide) (s 1 _ (by decide) (s 0 y (by decide) (fun i => by rw [hg, Nat.zero_add]))))
  apply BitVec.eq_of_getLsbD_eq
  intro i hi
  unfold step4
  rw [h, BitVec.getLsbD_ushiftRight, decide_eq_true (by omega), Bool.true_and]
/-- half a byte by the table -/
def half (x : B32) : B32 := (x >>> 4) ^^^ step4 (x &&& 15#32)
theorem half_step4 (x : B32) : half x = step4 x := by
  have h : x = (x &&& 0xfffffff0#32) ^^^ (x &&& 15#32) := by
    apply BitVec.eq_of_getLsbD_eq
    intro i hi
    have h1 : ∀ i : Fin 32, (0xfffffff0#32).getLsbD i.val = !(15#32).getLsbD i.val := by decide
    have h2 := h1 ⟨i, hi⟩
    simp only [BitVec.getLsbD_xor, BitVec.getLsbD_and] at *
    rw [h2]
    cases x.getLsbD i <;> cases (15#32).getLsbD i <;> rfl
  unfold half
  conv => rhs; rw [h, step4_xor, step4_high]
def byte32 (b : UInt8) : B32 := BitVec.ofNat 32 b.toNat
/-- one byte -/
def crcB (x : B32) (b : UInt8) : B32 := step4 (step4 (x ^^^ byte32 b))
def crcMore (n : B32) (s : List UInt8) : B32 := ~~~ (s.foldl crcB (~~~ n))
def crcSum (s : List UInt8) : B32 := crcMore 0#32 s
def four (n : B32) : List UInt8 := [UInt8.ofNat n.toNat, UInt8.ofNat (n.toNat / 256), UInt8.ofNat (n.toNat / 65536), UInt8.ofNat (n.toNat / 16777216)]
end Go.Proofs.Ytdppllkjibfjcaa
