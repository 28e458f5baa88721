import Derived.RowKit3
/-! The field of 256 numbers, in plain words: powers of two, logarithms, products; no program in sight. -/
namespace Go.Sh
set_option linter.unusedVariables false
set_option maxRecDepth 100000
/-- twice a number -/
def xtn (x : Nat) : Nat := if 2 * x > 255 then Nat.xor (2 * x) 285 else 2 * x
def expN : Nat → Nat
  | 0 => 1
  | i + 1 => xtn (expN i)
/-- the last place, below i, at which the power is x -/
def logF : Nat → Nat → Nat
  | 0, _ => 0
  | i + 1, x => if expN i = x then i else logF i x
def expFrom (x : Nat) : Nat → List Nat
  | 0 => []
  | n + 1 => x :: expFrom (xtn x) n
def itN (x : Nat) : Nat → Nat
  | 0 => x
  | i + 1 => xtn (itN x i)
theorem itN_one : ∀ i, itN 1 i = expN i
  | 0 => rfl
  | i + 1 => by simp only [itN, expN, itN_one i]
theorem itN_shift (x : Nat) : ∀ i, itN (xtn x) i = itN x (i + 1)
  | 0 => rfl
  | i + 1 => by simp only [itN]; rw [itN_shift x i]; rfl
theorem mem_expFrom : ∀ (n x y : Nat), y ∈ expFrom x n → ∃ k, k < n ∧ y = itN x k
  | 0, x, y, h => by simp [expFrom] at h
  | n + 1, x, y, h => by
    simp only [expFrom, List.mem_cons] at h
    rcases h with rfl | h
    · exact ⟨0, by omega, rfl⟩
    · obtain ⟨k, hk, e⟩ := mem_expFrom n (xtn x) y h
      exact ⟨k + 1, by omega, by rw [e, itN_shift]⟩
theorem all_powers : ((List.range 256).all fun x => x == 0 || (expFrom 1 255).contains x) = true := by decide +kernel
theorem is_power {x : Nat} (h0 : x ≠ 0) (h : x < 256) : ∃ k, k < 255 ∧ expN k = x := by
  have := List.all_eq_true.1 all_powers x (List.mem_range.2 h)
  simp only [Bool.or_eq_true, beq_iff_eq, List.contains_iff_mem] at this
  rcases this with e | e
  · exact absurd e h0
  · obtain ⟨k, hk, e⟩ := mem_expFrom _ _ _ e
    exact ⟨k, hk, by rw [e, itN_one]⟩
theorem logF_lt : ∀ {i : Nat}, 0 < i → ∀ x, logF i x < i
  | i + 1, _, x => by
    simp only [logF]
    split
    · omega
    · cases i with
      | zero => simp [logF]
      | succ j => have := logF_lt (i := j + 1) (by omega) x; omega
theorem logF_exp : ∀ {i k x : Nat}, k < i → expN k = x → expN (logF i x) = x
  | i + 1, k, x, hk, e => by
    simp only [logF]
    split
    · assumption
    · rename_i hne
      have : k ≠ i := fun h => hne (h ▸ e)
      exact logF_exp (by omega) e
theorem xtn_lt {x : Nat} (h : x < 256) : xtn x < 256 := by
  unfold xtn
  split
  · have : ((List.range 256).all fun x => decide (2 * x > 255) == false || decide (Nat.xor (2 * x) 285 < 256)) = true := by decide +kernel
    have := List.all_eq_true.1 this x (List.mem_range.2 h)
    simp only [Bool.or_eq_true, beq_iff_eq, decide_eq_false_iff_not, decide_eq_true_eq] at this
    omega
  · omega
theorem expN_lt : ∀ i, expN i < 256
  | 0 => by simp [expN]
  | i + 1 => xtn_lt (expN_lt i)
theorem xtn_zero : xtn 0 = 0 := rfl
/-- twice a byte -/
def xt (x : UInt8) : UInt8 := UInt8.ofNat (xtn x.toNat)
theorem xt_toNat (x : UInt8) : (xt x).toNat = xtn x.toNat := by
  unfold xt
  rw [UInt8.toNat_ofNat']
  exact Nat.mod_eq_of_lt (xtn_lt x.toNat_lt)
theorem xt_zero : xt 0 = 0 := rfl
def xtB (x : BitVec 8) : BitVec 8 := (x <<< 1) ^^^ (if x.msb then 29#8 else 0#8)
theorem xt_bits (x : UInt8) : (xt x).toBitVec = xtB x.toBitVec := by
  have h : ∀ n : Fin 256, (xt (UInt8.ofNat n.1)).toBitVec = xtB (UInt8.ofNat n.1).toBitVec := by decide +kernel
  have := h ⟨x.toNat, x.toNat_lt⟩
  simpa using this
theorem xtB_xor (x y : BitVec 8) : xtB (x ^^^ y) = xtB x ^^^ xtB y := by
  unfold xtB
  rw [BitVec.shiftLeft_xor_distrib, BitVec.msb_xor]
  have e1 : ∀ a b c d : BitVec 8, (a ^^^ b) ^^^ (c ^^^ d) = (a ^^^ c) ^^^ (b ^^^ d) := fun a b c d => by ac_rfl
  rw [e1 (x <<< 1)]
  congr 1
  cases x.msb <;> cases y.msb <;> rfl
theorem xt_xor (x y : UInt8) : xt (x ^^^ y) = xt x ^^^ xt y := by
  apply UInt8.toBitVec_inj.1
  rw [UInt8.toBitVec_xor, xt_bits, xt_bits, xt_bits, UInt8.toBitVec_xor, xtB_xor]
/-- twice, so many times -/
def xp : Nat → UInt8 → UInt8
  | 0, x => x
  | k + 1, x => xt (xp k x)
theorem xp_add : ∀ (j k : Nat) (x : UInt8), xp (j + k) x = xp j (xp k x)
  | 0, k, x => by rw [Nat.zero_add]; rfl
  | j + 1, k, x => by rw [Nat.succ_add]; simp only [xp]; rw [xp_add j k x]
theorem xp_comm (j k : Nat) (x : UInt8) : xp j (xp k x) = xp k (xp j x) := by rw [← xp_add, Nat.add_comm, xp_add]
theorem xp_xor : ∀ (k : Nat) (x y : UInt8), xp k (x ^^^ y) = xp k x ^^^ xp k y
  | 0, _, _ => rfl
  | k + 1, x, y => by simp only [xp]; rw [xp_xor k, xt_xor]
theorem xp_zero : ∀ k, xp k 0 = 0
  | 0 => rfl
  | k + 1 => by simp only [xp]; rw [xp_zero k]; rfl
/-- a power of two -/
def ex (k : Nat) : UInt8 := xp k 1
theorem ex_toNat : ∀ k, (ex k).toNat = expN k
  | 0 => rfl
  | k + 1 => by show (xt (xp k 1)).toNat = _; rw [xt_toNat]; show xtn (ex k).toNat = _; rw [ex_toNat k]; rfl
theorem ex_255 : ex 255 = 1 := by
  apply UInt8.toNat_inj.1
  rw [ex_toNat]
  decide +kernel
/-- a logarithm -/
def lg (x : UInt8) : Nat := logF 255 x.toNat
theorem lg_lt (x : UInt8) : lg x < 255 := logF_lt (by omega) _
theorem ex_lg {x : UInt8} (h : x ≠ 0) : ex (lg x) = x := by
  apply UInt8.toNat_inj.1
  rw [ex_toNat]
  obtain ⟨k, hk, e⟩ := is_power (x := x.toNat) (fun e => h (UInt8.toNat_inj.1 e)) x.toNat_lt
  exact logF_exp hk e
theorem xp_255 (x : UInt8) : xp 255 x = x := by
  by_cases h : x = 0
  · rw [h, xp_zero]
  · rw [← ex_lg h]
    unfold ex
    rw [xp_comm]
    exact congrArg (xp (lg x)) ex_255
theorem xp_inj {k : Nat} {x y : UInt8} (h : xp k x = xp k y) : x = y := by
  have h2 : ∀ z : UInt8, ∀ m, xp (m * 255) z = z := fun z m => by
    induction m with
    | zero => rw [Nat.zero_mul]; rfl
    | succ m ih => rw [Nat.succ_mul, xp_add, xp_255, ih]
  have h3 : ∀ z, xp (k * 254) (xp k z) = z := fun z => by
    rw [← xp_add, show k * 254 + k = k * 255 by omega]; exact h2 z k
  rw [← h3 x, ← h3 y, h]
theorem xp_ne {k : Nat} {x : UInt8} (h : x ≠ 0) : xp k x ≠ 0 := fun e => h (xp_inj (k := k) (by rw [e, xp_zero]))
theorem xp_round (k : Nat) (x : UInt8) : xp (k + 255) x = xp k x := by rw [xp_add, xp_255]
theorem ex_round (k : Nat) : ex (k + 255) = ex k := xp_round k 1
theorem ex_mod : ∀ (m k : Nat), ex (k + 255 * m) = ex k
  | 0, k => rfl
  | m + 1, k => by rw [show k + 255 * (m + 1) = (k + 255 * m) + 255 by omega, ex_round, ex_mod m k]
theorem expN_round (k : Nat) : expN (k + 255) = expN k := by rw [← ex_toNat, ← ex_toNat, ex_round]
/-- a product -/
def mulG (a b : UInt8) : UInt8 := if a = 0 ∨ b = 0 then 0 else ex (lg a + lg b)
theorem mulG_comm (a b : UInt8) : mulG a b = mulG b a := by
  unfold mulG
  rw [Nat.add_comm]
  by_cases h : a = 0 ∨ b = 0
  · rw [if_pos h, if_pos (or_comm.1 h)]
  · rw [if_neg h, if_neg (fun h' => h (or_comm.1 h'))]
theorem mulG_xp (a : UInt8) {b : UInt8} (hb : b ≠ 0) : mulG a b = xp (lg b) a := by
  unfold mulG
  by_cases ha : a = 0
  · rw [if_pos (.inl ha), ha, xp_zero]
  · rw [if_neg (by simp [ha, hb]), Nat.add_comm]
    unfold ex
    rw [xp_add]
    exact congrArg (xp (lg b)) (ex_lg ha)
theorem mulG_zero (a : UInt8) : mulG a 0 = 0 := if_pos (.inr rfl)
theorem zero_mulG (a : UInt8) : mulG 0 a = 0 := if_pos (.inl rfl)
theorem mulG_xor (a b c : UInt8) : mulG (a ^^^ b) c = mulG a c ^^^ mulG b c := by
  by_cases hc : c = 0
  · rw [hc, mulG_zero, mulG_zero, mulG_zero]; rfl
  · rw [mulG_xp _ hc, mulG_xp _ hc, mulG_xp _ hc, xp_xor]
theorem mulG_xor' (a b c : UInt8) : mulG c (a ^^^ b) = mulG c a ^^^ mulG c b := by rw [mulG_comm, mulG_xor, mulG_comm, mulG_comm b]
theorem one_ne : (1 : UInt8) ≠ 0 := by decide
theorem ex_ne (k : Nat) : ex k ≠ 0 := xp_ne one_ne
theorem mulG_ex (a : UInt8) (k : Nat) : mulG a (ex k) = xp k a := by
  by_cases ha : a = 0
  · rw [ha, zero_mulG, xp_zero]
  · rw [mulG_comm, mulG_xp _ ha]
    unfold ex
    rw [xp_comm]
    exact congrArg (xp k) (ex_lg ha)
theorem mulG_ne {a b : UInt8} (ha : a ≠ 0) (hb : b ≠ 0) : mulG a b ≠ 0 := by rw [mulG_xp _ hb]; exact xp_ne ha
theorem mulG_inj {a b c : UInt8} (hc : c ≠ 0) (h : mulG a c = mulG b c) : a = b := by
  rw [mulG_xp _ hc, mulG_xp _ hc] at h
  exact xp_inj h
/-- the inverse -/
def invG (a : UInt8) : UInt8 := ex (255 - lg a)
theorem mulG_inv {s : UInt8} (hs : s ≠ 0) (x : UInt8) : mulG (mulG x s) (invG s) = x := by
  unfold invG
  rw [mulG_ex, mulG_xp _ hs, ← xp_add, show 255 - lg s + lg s = 255 by have := lg_lt s; omega, xp_255]
theorem ex_inj {i k : Nat} (hi : i < 255) (hk : k < 255) (h : ex i = ex k) : i = k := by
  have hnd : (expFrom 1 255).Nodup := by decide +kernel
  have hl : ∀ (n x j : Nat), j < n → (expFrom x n)[j]? = some (itN x j) := by
    intro n
    induction n with
    | zero => intro x j h; omega
    | succ n ih =>
      intro x j h
      cases j with
      | zero => rfl
      | succ j => simp only [expFrom, List.getElem?_cons_succ]; rw [ih (xtn x) j (by omega), itN_shift]
  have e : itN 1 i = itN 1 k := by rw [itN_one, itN_one, ← ex_toNat, ← ex_toNat, h]
  have h1 := hl 255 1 i hi
  have h2 := hl 255 1 k hk
  rw [e, ← h2] at h1
  exact (List.getElem?_inj (by
    have := (List.getElem?_eq_some_iff.1 (hl 255 1 i hi)).1
    exact this) hnd).1 h1
/-- the sum of two powers is none of the zero's -/
theorem ex_sum_ne {i k : Nat} (hi : i < 255) (hk : k < 255) (h : i ≠ k) : ex i ^^^ ex k ≠ 0 := fun e => h (ex_inj hi hk (UInt8.xor_eq_zero_iff.1 e))
end Go.Sh
