import Derived.Test.YtdppllkjibfjcaaCr4
import Derived.Test.YtdppllkjibfjcaaMem7
/-! pack: numbers and bytes. -/
namespace Go.Proofs.Ytdppllkjibfjcaa
open Go.Sh Go.RowKit
set_option linter.unusedVariables false
set_option maxRecDepth 20000
set_option maxHeartbeats 1000000
/-- the bytes of a number, the lowest one first -/
def leB (n w : Nat) : List UInt8 := (List.range w).map fun k => UInt8.ofNat (n / 2 ^ (8 * k))
def leN : List UInt8 → Nat
  | [] => 0
  | b :: r => b.toNat + 256 * leN r
def wsum (ws : List Nat) (i : Nat) : Nat := (ws.take i).sum
def encP : List Nat → List Nat → List UInt8
  | n :: ns, w :: ws => leB n w ++ encP ns ws
  | _, _ => []
def decP (s : List UInt8) : List Nat → List Nat
  | [] => []
  | w :: ws => leN (s.take w) :: decP (s.drop w) ws
theorem leB_len (n w : Nat) : (leB n w).length = w := by simp [leB]
theorem leB_succ (n w : Nat) : leB n (w + 1) = UInt8.ofNat n :: leB (n / 256) w := by
  unfold leB
  rw [List.range_succ_eq_map]
  simp only [List.map_cons, List.map_map, Nat.mul_zero, Nat.pow_zero, Nat.div_one, List.cons.injEq, true_and]
  apply List.map_congr_left
  intro k _
  simp only [Function.comp]
  rw [Nat.div_div_eq_div_mul, show 8 * (k + 1) = 8 + 8 * k by omega, Nat.pow_add]
theorem leN_leB : ∀ (w n : Nat), n < 256 ^ w → leN (leB n w) = n
  | 0, n, h => by have : n = 0 := by simpa using h
                  subst this; rfl
  | w + 1, n, h => by
    rw [leB_succ, leN, leN_leB w (n / 256) (by rw [Nat.div_lt_iff_lt_mul (by decide), ← Nat.pow_succ]; exact h)]
    have : (UInt8.ofNat n).toNat = n % 256 := by simp
    rw [this]; omega
theorem leN_snoc : ∀ (l : List UInt8) (b : UInt8), leN (l ++ [b]) = leN l + b.toNat * 256 ^ l.length
  | [], b => by simp [leN]
  | c :: l, b => by
    simp only [List.cons_append, leN, leN_snoc l b, List.length_cons, Nat.pow_succ]
    have : 256 * (b.toNat * 256 ^ l.length) = b.toNat * (256 ^ l.length * 256) := by rw [Nat.mul_comm 256, Nat.mul_assoc]
    rw [Nat.mul_add, this]; omega
theorem leN_lt : ∀ (l : List UInt8), leN l < 256 ^ l.length
  | [] => by simp [leN]
  | b :: l => by
    have h := leN_lt l
    have hb := b.toNat_lt
    simp only [leN, List.length_cons, Nat.pow_succ]
    omega
theorem wsum_zero (ws : List Nat) : wsum ws 0 = 0 := rfl
theorem wsum_cons (w : Nat) (ws : List Nat) (i : Nat) : wsum (w :: ws) (i + 1) = w + wsum ws i := by simp [wsum]
theorem wsum_step {ws : List Nat} {i x : Nat} (h : ws[i]? = some x) : wsum ws (i + 1) = wsum ws i + x := by
  unfold wsum
  rw [List.take_add_one, h]
  simp
theorem wsum_all (ws : List Nat) {i : Nat} (h : ws.length ≤ i) : wsum ws i = ws.sum := by unfold wsum; rw [List.take_of_length_le h]
theorem wsum_le {ws : List Nat} {i j : Nat} (h : i ≤ j) : wsum ws i ≤ wsum ws j := by
  induction j with
  | zero => obtain rfl : i = 0 := by omega
            exact Nat.le_refl _
  | succ j ih =>
    by_cases hij : i = j + 1
    · subst hij; exact Nat.le_refl _
    · refine Nat.le_trans (ih (by omega)) ?_
      cases hj : ws[j]? with
      | some x => rw [wsum_step hj]; omega
      | none =>
        have := List.getElem?_eq_none_iff.1 hj
        rw [wsum_all ws this, wsum_all ws (by omega)]; exact Nat.le_refl _
theorem wsum_max {ws : List Nat} (i : Nat) : wsum ws i ≤ ws.sum := by
  rcases Nat.le_total i ws.length with h | h
  · have := wsum_le (ws := ws) h
    rwa [wsum_all ws (Nat.le_refl _)] at this
  · rw [wsum_all ws h]; exact Nat.le_refl _
theorem encP_len : ∀ (ns ws : List Nat), ns.length = ws.length → (encP ns ws).length = ws.sum
  | [], [], _ => rfl
  | n :: ns, w :: ws, h => by simp only [encP, List.length_append, leB_len, List.sum_cons, encP_len ns ws (by simpa using h)]
theorem encP_get : ∀ (ns ws : List Nat) (i k v x : Nat), ws[i]? = some x → ns[i]? = some v → k < x → (encP ns ws)[wsum ws i + k]? = some (UInt8.ofNat (v / 2 ^ (8 * k)))
  | [], _, i, _, _, _, _, h, _ => by simp at h
  | _ :: _, [], i, _, _, _, h, _, _ => by simp at h
  | n :: ns, w :: ws, 0, k, v, x, hw, hn, hk => by
    simp only [List.getElem?_cons_zero, Option.some.injEq] at hw hn
    subst hw; subst hn
    simp only [encP, wsum_zero, Nat.zero_add]
    rw [List.getElem?_append_left (by rw [leB_len]; exact hk)]
    simp [leB, hk]
  | n :: ns, w :: ws, i + 1, k, v, x, hw, hn, hk => by
    simp only [List.getElem?_cons_succ] at hw hn
    simp only [encP, wsum_cons]
    rw [List.getElem?_append_right (by rw [leB_len]; omega), leB_len, show w + wsum ws i + k - w = wsum ws i + k by omega]
    exact encP_get ns ws i k v x hw hn hk
theorem decP_len (s : List UInt8) : ∀ (ws : List Nat), (decP s ws).length = ws.length := by
  intro ws
  induction ws generalizing s with
  | nil => rfl
  | cons w ws ih => simp [decP, ih]
theorem decP_get : ∀ (ws : List Nat) (s : List UInt8) (i x : Nat), ws[i]? = some x → (decP s ws)[i]? = some (leN ((s.drop (wsum ws i)).take x))
  | [], _, i, _, h => by simp at h
  | w :: ws, s, 0, x, h => by
    simp only [List.getElem?_cons_zero, Option.some.injEq] at h
    subst h
    simp [decP, wsum_zero]
  | w :: ws, s, i + 1, x, h => by
    simp only [List.getElem?_cons_succ] at h
    simp only [decP, List.getElem?_cons_succ, wsum_cons]
    rw [decP_get ws (s.drop w) i x h, List.drop_drop]
theorem dec_enc : ∀ (ns ws : List Nat) (r : List UInt8), ns.length = ws.length → (∀ p ∈ ns.zip ws, p.1 < 256 ^ p.2) → decP (encP ns ws ++ r) ws = ns
  | [], [], _, _, _ => rfl
  | n :: ns, w :: ws, r, h, hf => by
    have h1 : n < 256 ^ w := hf (n, w) (by simp)
    have e1 : (encP (n :: ns) (w :: ws) ++ r).take w = leB n w := by
      simp only [encP, List.append_assoc]
      exact List.take_left' (leB_len n w)
    have e2 : (encP (n :: ns) (w :: ws) ++ r).drop w = encP ns ws ++ r := by
      simp only [encP, List.append_assoc]
      exact List.drop_left' (leB_len n w)
    rw [decP, e1, e2, leN_leB w n h1, dec_enc ns ws r (by simpa using h) fun p hp => hf p (by simp [hp])]
/-- what lies in a place when m bytes are read -/
def curP (s : List UInt8) (ws : List Nat) (m j : Nat) : Nat := leN ((s.drop (wsum ws j)).take (min (m - wsum ws j) (ws.getD j 0)))
theorem curP_zero (s : List UInt8) (ws : List Nat) (j : Nat) : curP s ws 0 j = 0 := by simp [curP, leN]
theorem curP_all (s : List UInt8) {ws : List Nat} {j x : Nat} (h : ws[j]? = some x) : curP s ws ws.sum j = leN ((s.drop (wsum ws j)).take x) := by
  unfold curP
  have h1 := wsum_step h
  have h2 := wsum_max (ws := ws) (j + 1)
  have h3 : ws.getD j 0 = x := by simp [List.getD, h]
  rw [h3, Nat.min_eq_right (by omega)]
theorem curP_other (s : List UInt8) {ws : List Nat} {i k x j : Nat} (h : ws[i]? = some x) (hk : k < x) (hj : j ≠ i) : curP s ws (wsum ws i + k + 1) j = curP s ws (wsum ws i + k) j := by
  unfold curP
  congr 2
  rcases Nat.lt_or_ge j i with h1 | h1
  · cases hy : ws[j]? with
    | none =>
      have h4 := List.getElem?_eq_none_iff.1 hy
      have : ws.getD j 0 = 0 := by simp [List.getD, hy]
      rw [this]; simp
    | some y =>
      have h2 : wsum ws j + y ≤ wsum ws i := by rw [← wsum_step hy]; exact wsum_le (by omega)
      have h3 : ws.getD j 0 = y := by simp [List.getD, hy]
      rw [h3]; omega
  · have h2 : wsum ws i + x ≤ wsum ws j := by rw [← wsum_step h]; exact wsum_le (by omega)
    omega
theorem curP_step {s : List UInt8} {ws : List Nat} {i k x : Nat} {b : UInt8} (h : ws[i]? = some x) (hk : k < x) (hb : s[wsum ws i + k]? = some b) : curP s ws (wsum ws i + k + 1) i = curP s ws (wsum ws i + k) i + b.toNat * 256 ^ k ∧ curP s ws (wsum ws i + k) i < 256 ^ k := by
  have h3 : ws.getD i 0 = x := by simp [List.getD, h]
  have hl : (s.drop (wsum ws i))[k]? = some b := by rw [List.getElem?_drop]; exact hb
  have hlen : ((s.drop (wsum ws i)).take k).length = k := by
    rw [List.length_take]
    have := List.getElem?_eq_some_iff.1 hl
    obtain ⟨h5, _⟩ := this
    omega
  unfold curP
  rw [h3, show min (wsum ws i + k + 1 - wsum ws i) x = k + 1 by omega, show min (wsum ws i + k - wsum ws i) x = k by omega, List.take_add_one, hl]
  refine ⟨?_, ?_⟩
  · show leN (_ ++ [b]) = _
    rw [leN_snoc, hlen]
  · have := leN_lt ((s.drop (wsum ws i)).take k)
    rwa [hlen] at this
theorem or64 {a b k : Nat} (ha : a < 2 ^ k) (hs : a + b * 2 ^ k < 18446744073709551616) : bits2 .or .u64 (a : Int) ((b * 2 ^ k : Nat) : Int) = ((a + b * 2 ^ k : Nat) : Int) := by
  have e : ∀ n : Nat, BitVec.ofInt 64 (n : Int) = BitVec.ofNat 64 n := fun n => by simp
  have h0 : bits2 .or .u64 (a : Int) ((b * 2 ^ k : Nat) : Int) = IntKind.u64.wrap (((BitVec.ofNat 64 a ||| BitVec.ofNat 64 (b * 2 ^ k)).toNat : Nat) : Int) := by
    unfold bits2
    simp only [IntKind.bits, e]
    rfl
  rw [h0, BitVec.toNat_or, BitVec.toNat_ofNat, BitVec.toNat_ofNat, Nat.mod_eq_of_lt (by omega), Nat.mod_eq_of_lt (by omega)]
  have h1 : a ||| b * 2 ^ k = a + b * 2 ^ k := by
    have := Nat.shiftLeft_add_eq_or_of_lt ha b
    rw [Nat.shiftLeft_eq] at this
    rw [Nat.or_comm, ← this, Nat.add_comm]
  rw [h1, wrapU64]
  omega
end Go.Proofs.Ytdppllkjibfjcaa
