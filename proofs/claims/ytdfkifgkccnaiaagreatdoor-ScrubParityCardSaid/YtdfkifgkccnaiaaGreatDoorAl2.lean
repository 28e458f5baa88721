import Derived.Test.YtdfkifgkccnaiaaGreatDoorAl1
/-! What Fill makes, place by place. -/
namespace Go.Proofs.YtdfkifgkccnaiaaGreatDoor
open Go.Sh Go.RowKit
set_option linter.unusedVariables false
set_option linter.unusedSimpArgs false
set_option maxRecDepth 20000
set_option maxHeartbeats 2000000
theorem xor_cut {a b c : UInt8} (h : a ^^^ b = b ^^^ c) : a = c := by
  have : a ^^^ b = c ^^^ b := by rw [h, UInt8.xor_comm]
  have e := congrArg (· ^^^ b) this
  simpa [UInt8.xor_assoc] using e
theorem exI_pos {i : Nat} (h : i < 255) : exI (i : Int) = ex i := by unfold exI; congr 1; omega
theorem exI_back {i : Nat} (h : i < 255) (x : UInt8) : xp i (mulG x (exI (0 - (i : Int)))) = x := by
  unfold exI
  rw [mulG_ex, ← xp_add]
  by_cases h0 : i = 0
  · subst h0; rfl
  · rw [show i + ((0 - (i : Int)) % 255).toNat = 255 by omega, xp_255]
theorem mulG_back {s : UInt8} (hs : s ≠ 0) (x : UInt8) : mulG (mulG x (invG s)) s = x := by
  have e : mulG (mulG x s) (invG s) = x := mulG_inv hs x
  unfold invG at e ⊢
  rw [mulG_ex] at e ⊢
  rw [mulG_xp _ hs] at e ⊢
  rw [xp_comm]; exact e
/-- P's sum is right, or Q's, at each place -/
def PAll (L : List Txt) : Prop := ∀ j, PRel (col L j) (L.length - 2)
def QAll (L : List Txt) : Prop := ∀ j, QRel (col L j) (L.length - 2)
theorem col_out {L : List Txt} {i c : Nat} (hi : i < L.length) (h : c ≠ i) (x : Txt) (j : Nat) : col (L.set i x) j c = col L j c := by rw [col_set hi, if_neg (Ne.symm h)]
theorem col_at {L : List Txt} {i : Nat} (hi : i < L.length) (x : Txt) (j : Nat) : col (L.set i x) j i = x.getD j 0 := by rw [col_set hi, if_pos rfl]
theorem sx_set {L : List Txt} {i n : Nat} (hi : i < n) (hn : n ≤ L.length) (x : Txt) (j : Nat) : sx (col (L.set i x) j) n = sx (col L j) n ^^^ (x.getD j 0 ^^^ col L j i) := by
  have h := sx_xor (col (L.set i x) j) (col L j) n
  rw [sx_one (f := fun c => col (L.set i x) j c ^^^ col L j c) hi fun c hc h1 => by rw [col_out (by omega) h1, UInt8.xor_self], col_at (by omega)] at h
  rw [h, UInt8.xor_comm, UInt8.xor_assoc, UInt8.xor_self, UInt8.xor_zero]
theorem sq_set {L : List Txt} {i n : Nat} (hi : i < n) (hn : n ≤ L.length) (x : Txt) (j : Nat) : sx (wq (col (L.set i x) j)) n = sx (wq (col L j)) n ^^^ xp i (x.getD j 0 ^^^ col L j i) := by
  have h := sx_xor (wq (col (L.set i x) j)) (wq (col L j)) n
  rw [sx_one (f := fun c => wq (col (L.set i x) j) c ^^^ wq (col L j) c) hi fun c hc h1 => by unfold wq; rw [col_out (by omega) h1, UInt8.xor_self]] at h
  unfold wq at h ⊢
  rw [col_at (by omega), ← xp_xor] at h
  rw [h, UInt8.xor_comm, UInt8.xor_assoc, UInt8.xor_self, UInt8.xor_zero]
theorem byPL_P {L : List Txt} {i : Nat} (h : i < L.length - 2) : PAll (byPL L i) := fun j => by
  unfold PRel byPL
  rw [List.length_set, sx_set h (by omega), col_out (by omega) (by omega), xorT_get, synP_col]
  show _ = _ ^^^ ((col L j i ^^^ _) ^^^ col L j i)
  rw [UInt8.xor_comm (col L j i), UInt8.xor_assoc _ (col L j i), UInt8.xor_self, UInt8.xor_zero, ← UInt8.xor_assoc, UInt8.xor_self, UInt8.zero_xor]
theorem byQL_Q {L : List Txt} {i : Nat} (h : i < L.length - 2) (h255 : i < 255) : QAll (byQL L i) := fun j => by
  unfold QRel byQL
  rw [List.length_set, sq_set h (by omega), col_out (by omega) (by omega), xorT_get, timesL_get, synQ_col]
  show _ = _ ^^^ xp i ((col L j i ^^^ _) ^^^ col L j i)
  rw [UInt8.xor_comm (col L j i), UInt8.xor_assoc _ (col L j i), UInt8.xor_self, UInt8.xor_zero, exI_back h255, ← UInt8.xor_assoc, UInt8.xor_self, UInt8.zero_xor]
  rw [show L.length - 2 + 1 = L.length - 1 by omega]
theorem parP_P {L : List Txt} (h : 2 ≤ L.length) : PAll (parP L) := fun j => by
  unfold PRel
  rw [parP_len]
  unfold parP
  rw [col_at (by omega), sumT_col (by omega)]
  exact sx_congr fun c hc => (col_out (by omega) (by omega) _ _).symm
theorem parP_Q {L : List Txt} (h : 2 ≤ L.length) (hQ : QAll L) : QAll (parP L) := fun j => by
  have := hQ j
  unfold QRel at this ⊢
  rw [parP_len]
  unfold parP
  rw [col_out (by omega) (by omega), this]
  exact sx_congr fun c hc => congrArg (xp c) (col_out (by omega) (by omega) _ _).symm
theorem parQ_len (L : List Txt) : (parQ L).length = L.length := List.length_set
theorem parQ_Q {L : List Txt} (h : 2 ≤ L.length) : QAll (parQ L) := fun j => by
  unfold QRel
  rw [parQ_len]
  unfold parQ
  rw [show L.length - 2 + 1 = L.length - 1 by omega, col_at (by omega), qT_col (by omega)]
  exact sx_congr fun c hc => congrArg (xp c) (col_out (by omega) (by omega) _ _).symm
theorem parQ_P {L : List Txt} (h : 2 ≤ L.length) (hP : PAll L) : PAll (parQ L) := fun j => by
  have := hP j
  unfold PRel at this ⊢
  rw [parQ_len]
  unfold parQ
  rw [col_out (by omega) (by omega), this]
  exact sx_congr fun c hc => (col_out (by omega) (by omega) _ _).symm
theorem bothL_len (L : List Txt) (i k : Nat) : (bothL L i k).length = L.length := by simp [bothL]
theorem bothL_PQ {L : List Txt} {i k : Nat} (hik : i < k) (hk : k < L.length - 2) (h255 : k < 255) (hi0 : ∀ j, col L j i = 0) (hk0 : ∀ j, col L j k = 0) : PAll (bothL L i k) ∧ QAll (bothL L i k) := by
  have hs : ex i ^^^ ex k ≠ 0 := ex_sum_ne (by omega) h255 (by omega)
  have hB : ∀ j, xp i ((bothK L i k).getD j 0) ^^^ xp k ((bothK L i k).getD j 0) = (synQ L).getD j 0 ^^^ xp i ((synP L).getD j 0) := fun j => by
    unfold bothK
    rw [exI_pos (by omega), exI_pos h255, invF_ne hs, timesL_get, xorT_get, timesL_get, mulG_ex]
    generalize (synQ L).getD j 0 ^^^ xp i ((synP L).getD j 0) = u
    have := mulG_back hs u
    rw [mulG_xor', mulG_ex, mulG_ex] at this
    exact this
  refine ⟨fun j => ?_, fun j => ?_⟩
  · unfold PRel
    rw [bothL_len]
    unfold bothL
    rw [col_out (by simp; omega) (by omega), col_out (by omega) (by omega), sx_set (by omega) (by simp), sx_set hk (by omega), col_out (by omega) (by omega), hi0, hk0, xorT_get, UInt8.xor_zero, UInt8.xor_zero, synP_col]
    generalize (bothK L i k).getD j 0 = b
    rw [UInt8.xor_comm _ b, UInt8.xor_comm _ b, UInt8.xor_assoc, ← UInt8.xor_assoc _ b, UInt8.xor_comm _ b, UInt8.xor_assoc b, ← UInt8.xor_assoc b, UInt8.xor_self, UInt8.zero_xor, ← UInt8.xor_assoc, UInt8.xor_self, UInt8.zero_xor]
  · unfold QRel
    rw [bothL_len]
    unfold bothL
    rw [col_out (by simp; omega) (by omega), col_out (by omega) (by omega), sq_set (by omega) (by simp), sq_set hk (by omega), col_out (by omega) (by omega), hi0, hk0, xorT_get, UInt8.xor_zero, UInt8.xor_zero, xp_xor]
    have h1 := hB j
    rw [show L.length - 2 + 1 = L.length - 1 by omega]
    generalize (bothK L i k).getD j 0 = b at h1
    rw [UInt8.xor_assoc, UInt8.xor_comm (xp i _), ← UInt8.xor_assoc (xp k b), UInt8.xor_comm (xp k b), h1, synQ_col, UInt8.xor_assoc _ (xp i _), UInt8.xor_self, UInt8.xor_zero, ← UInt8.xor_assoc, UInt8.xor_self, UInt8.zero_xor]
/-- a row, filled: of one length, and right -/
structure FillR (R : List Txt) (m : Nat) (l : List Int) (F : List Txt) : Prop where
  len : F.length = R.length
  all : AllLen F m
  out : ∀ c : Nat, (c : Int) ∉ l → F.getD c [] = R.getD c []
  fil : ∀ j, Filled (R.length - 2) l (col F j)
theorem lastLen_eq {L : List Txt} {l : List Int} {m : Nat} (h : ∀ j, j < L.length → (j : Int) ∉ l → (L.getD j []).length = m) : ∀ i, i ≤ L.length → (∃ j, j < i ∧ (j : Int) ∉ l) → lastLen L l i = m
  | 0, _, ⟨j, hj, _⟩ => absurd hj (by omega)
  | i + 1, hi, ⟨j, hj, hn⟩ => by
    simp only [lastLen]
    by_cases e : (i : Int) ∈ l
    · rw [if_pos e]
      refine lastLen_eq h i (by omega) ⟨j, ?_, hn⟩
      have : j ≠ i := fun e' => hn (e' ▸ e)
      omega
    · rw [if_neg e, h i (by omega) e]
theorem col_zeros {L : List Txt} {i : Nat} (hi : i < L.length) (m j : Nat) : col (L.set i (List.replicate m 0)) j i = 0 := by
  rw [col_at hi]
  simp only [List.getD_eq_getElem?_getD]
  by_cases h : j < m
  · simp [h]
  · rw [List.getElem?_eq_none (by simp; omega)]; rfl
theorem get_out {L : List Txt} {i c : Nat} (h : c ≠ i) (x : Txt) : (L.set i x).getD c [] = L.getD c [] := by
  simp [List.getD, List.getElem?_set, Ne.symm h]
theorem parP_all {L : List Txt} {m : Nat} (h : AllLen L m) (h3 : 3 ≤ L.length) : AllLen (parP L) m := h.set (sumT_all h (by omega) (by omega)) _
theorem parQ_all {L : List Txt} {m : Nat} (h : AllLen L m) (h3 : 3 ≤ L.length) : AllLen (parQ L) m := h.set (qT_all h (by omega) (by omega)) _
theorem byPL_all {L : List Txt} {m i : Nat} (h : AllLen L m) (h3 : 3 ≤ L.length) (hi : i < L.length) : AllLen (byPL L i) m := h.set (by rw [xorT_len, h i hi, synP_all h h3]; omega) _
theorem byQL_all {L : List Txt} {m i : Nat} (h : AllLen L m) (h3 : 3 ≤ L.length) (hi : i < L.length) : AllLen (byQL L i) m := h.set (by rw [xorT_len, timesL_len, h i hi, synQ_all h h3]; omega) _
theorem bothL_all {L : List Txt} {m i k : Nat} (h : AllLen L m) (h3 : 3 ≤ L.length) : AllLen (bothL L i k) m := by
  have e : (bothK L i k).length = m := by unfold bothK; rw [timesL_len, xorT_len, timesL_len, synP_all h h3, synQ_all h h3]; omega
  exact (h.set e _).set (by rw [xorT_len, e, synP_all h h3]; omega) _
theorem kindF_data {n : Nat} {x : Int} (h : x < n) : kindF n x = 1 := if_pos h
theorem kindF_p {n : Nat} : kindF n (n : Int) = 2 := by unfold kindF; rw [if_neg (by omega), if_pos rfl]
theorem kindF_q {n : Nat} : kindF n ((n + 1 : Nat) : Int) = 3 := by unfold kindF; rw [if_neg (by omega), if_neg (by omega)]
theorem fill_one {R : List Txt} {m i : Nat} (h4 : 4 ≤ R.length) (h10 : R.length ≤ 10) (hi : i < R.length) (hm : ∀ j, j < R.length → (j : Int) ∉ [(i : Int)] → (R.getD j []).length = m) : FillR R m [(i : Int)] (fillS R [(i : Int)]) := by
  have hz : lastLen R [(i : Int)] R.length = m := lastLen_eq hm _ (Nat.le_refl _) (by
    by_cases e : i = 0
    · exact ⟨1, by omega, by simp; omega⟩
    · exact ⟨0, by omega, by simp; omega⟩)
  unfold fillS
  rw [hz]
  have hZ : zerL R [(i : Int)] m [(i : Int)].length = R.set i (List.replicate m 0) := rfl
  rw [hZ]
  generalize hZZ : R.set i (List.replicate m 0) = Z
  have hl : Z.length = R.length := by rw [← hZZ]; simp
  have hZm : AllLen Z m := fun j hj => by
    rw [hl] at hj
    rw [← hZZ, getD_set _ _ _ _ hi]
    split
    · simp
    · exact hm j hj (by simp; omega)
  have hZo : ∀ c, c ≠ i → Z.getD c [] = R.getD c [] := fun c hc => by rw [← hZZ]; exact get_out hc _
  have k1 : kindA (R.length - 2) [(i : Int)] 1 [(i : Int)].length = 0 := by unfold kindA; rw [if_neg (by simp)]
  have k0 : kindA (R.length - 2) [(i : Int)] 0 [(i : Int)].length = kindF (R.length - 2) (i : Int) := by unfold kindA; rw [if_pos (by simp)]; rfl
  rw [k0, k1]
  show FillR R m _ (fillK _ 0 Z i 0)
  rcases Nat.lt_trichotomy i (R.length - 2) with h | h | h
  · rw [kindF_data (by omega)]
    show FillR R m _ (byPL Z i)
    refine ⟨by rw [byPL_len, hl], byPL_all hZm (by omega) (by omega), fun c hc => ?_, fun j => ⟨fun h2 => absurd h2 (by simp), fun i' e => ?_⟩⟩
    · have hci : c ≠ i := fun e => hc (by simp [e])
      unfold byPL
      rw [get_out hci, hZo c hci]
    · obtain rfl : i = i' := by have := (List.cons.inj e).1; omega
      have := byPL_P (L := Z) (i := i) (by omega) j
      rw [byPL_len, hl] at this
      exact ⟨fun _ => this, fun e => absurd e (by omega)⟩
  · have : kindF (R.length - 2) (i : Int) = 2 := by rw [h]; exact kindF_p
    rw [this]
    show FillR R m _ (parP Z)
    refine ⟨by rw [parP_len, hl], parP_all hZm (by omega), fun c hc => ?_, fun j => ⟨fun h2 => absurd h2 (by simp), fun i' e => ?_⟩⟩
    · have hci : c ≠ i := fun e => hc (by simp [e])
      unfold parP
      rw [get_out (by omega), hZo c hci]
    · obtain rfl : i = i' := by have := (List.cons.inj e).1; omega
      have := parP_P (L := Z) (by omega) j
      rw [parP_len, hl] at this
      exact ⟨fun _ => this, fun e => absurd e (by omega)⟩
  · have : kindF (R.length - 2) (i : Int) = 3 := by rw [show i = R.length - 2 + 1 by omega]; exact kindF_q
    rw [this]
    show FillR R m _ (parQ Z)
    refine ⟨by rw [parQ_len, hl], parQ_all hZm (by omega), fun c hc => ?_, fun j => ⟨fun h2 => absurd h2 (by simp), fun i' e => ?_⟩⟩
    · have hci : c ≠ i := fun e => hc (by simp [e])
      unfold parQ
      rw [get_out (by omega), hZo c hci]
    · obtain rfl : i = i' := by have := (List.cons.inj e).1; omega
      have := parQ_Q (L := Z) (by omega) j
      rw [parQ_len, hl] at this
      exact ⟨fun e => absurd e (by omega), fun _ => this⟩
theorem fill_two {R : List Txt} {m i k : Nat} (h4 : 4 ≤ R.length) (h10 : R.length ≤ 10) (hik : i < k) (hk : k < R.length) (hm : ∀ j, j < R.length → (j : Int) ∉ [(i : Int), (k : Int)] → (R.getD j []).length = m) : FillR R m [(i : Int), (k : Int)] (fillS R [(i : Int), (k : Int)]) := by
  have hz : lastLen R [(i : Int), (k : Int)] R.length = m := lastLen_eq hm _ (Nat.le_refl _) (by
    by_cases e : i = 0
    · by_cases e2 : k = 1
      · exact ⟨2, by omega, by simp; omega⟩
      · exact ⟨1, by omega, by simp; omega⟩
    · exact ⟨0, by omega, by simp; omega⟩)
  unfold fillS
  rw [hz]
  have hZ : zerL R [(i : Int), (k : Int)] m [(i : Int), (k : Int)].length = (R.set i (List.replicate m 0)).set k (List.replicate m 0) := rfl
  rw [hZ]
  generalize hZZ : (R.set i (List.replicate m 0)).set k (List.replicate m 0) = Z
  have hl : Z.length = R.length := by rw [← hZZ]; simp
  have hZm : AllLen Z m := fun j hj => by
    rw [hl] at hj
    rw [← hZZ, getD_set _ _ _ _ (by simp; omega)]
    split
    · simp
    · rw [getD_set _ _ _ _ (by omega)]
      split
      · simp
      · exact hm j hj (by simp; omega)
  have hZo : ∀ c, c ≠ i → c ≠ k → Z.getD c [] = R.getD c [] := fun c hc hc2 => by rw [← hZZ, get_out hc2, get_out hc]
  have hZk : ∀ j, col Z j k = 0 := fun j => by rw [← hZZ]; exact col_zeros (by simp; omega) m j
  have hZi : ∀ j, col Z j i = 0 := fun j => by
    rw [← hZZ, col_out (by simp; omega) (by omega)]
    exact col_zeros (by omega) m j
  have k1 : kindA (R.length - 2) [(i : Int), (k : Int)] 1 [(i : Int), (k : Int)].length = kindF (R.length - 2) (k : Int) := by unfold kindA; rw [if_pos (by simp)]; rfl
  have k0 : kindA (R.length - 2) [(i : Int), (k : Int)] 0 [(i : Int), (k : Int)].length = kindF (R.length - 2) (i : Int) := by unfold kindA; rw [if_pos (by simp)]; rfl
  rw [k0, k1]
  show FillR R m _ (fillK _ _ Z i k)
  have fin : ∀ F : List Txt, F.length = R.length → AllLen F m → (∀ c, c ≠ i → c ≠ k → F.getD c [] = Z.getD c []) → PAll F → QAll F → FillR R m [(i : Int), (k : Int)] F := fun F h1 h2 h3 h5 h6 => by
    refine ⟨h1, h2, fun c hc => ?_, fun j => ?_⟩
    · have hci : c ≠ i ∧ c ≠ k := by simp at hc; omega
      rw [h3 c hci.1 hci.2, hZo c hci.1 hci.2]
    · have a := h5 j
      have b := h6 j
      rw [h1] at a b
      exact Filled.good a b _
  rcases Nat.lt_trichotomy k (R.length - 2) with h | h | h
  · rw [kindF_data (show (i : Int) < ((R.length - 2 : Nat) : Int) by omega), kindF_data (show (k : Int) < ((R.length - 2 : Nat) : Int) by omega)]
    show FillR R m _ (bothL Z i k)
    obtain ⟨a, b⟩ := bothL_PQ (L := Z) hik (by omega) (by omega) hZi hZk
    refine fin _ (by rw [bothL_len, hl]) (bothL_all hZm (by omega)) (fun c hc hc2 => ?_) a b
    unfold bothL
    rw [get_out hc, get_out hc2]
  · have e2 : kindF (R.length - 2) (k : Int) = 2 := by rw [h]; exact kindF_p
    rw [kindF_data (show (i : Int) < ((R.length - 2 : Nat) : Int) by omega), e2]
    show FillR R m _ (parP (byQL Z i))
    have hbl : (byQL Z i).length = R.length := by rw [byQL_len, hl]
    refine fin _ (by rw [parP_len, hbl]) (parP_all (byQL_all hZm (by omega) (by omega)) (by omega)) (fun c hc hc2 => ?_) (parP_P (by omega)) (parP_Q (by omega) (byQL_Q (by omega) (by omega)))
    unfold parP
    rw [get_out (by omega)]
    unfold byQL
    rw [get_out hc]
  · have e2 : kindF (R.length - 2) (k : Int) = 3 := by rw [show k = R.length - 2 + 1 by omega]; exact kindF_q
    rw [e2]
    by_cases hi : i = R.length - 2
    · have e1 : kindF (R.length - 2) (i : Int) = 2 := by rw [hi]; exact kindF_p
      rw [e1]
      show FillR R m _ (parQ (parP Z))
      have hbl : (parP Z).length = R.length := by rw [parP_len, hl]
      refine fin _ (by rw [parQ_len, hbl]) (parQ_all (parP_all hZm (by omega)) (by omega)) (fun c hc hc2 => ?_) (parQ_P (by omega) (parP_P (by omega))) (parQ_Q (by omega))
      unfold parQ
      rw [get_out (by omega)]
      unfold parP
      rw [get_out (by omega)]
    · rw [kindF_data (show (i : Int) < ((R.length - 2 : Nat) : Int) by omega)]
      show FillR R m _ (parQ (byPL Z i))
      have hbl : (byPL Z i).length = R.length := by rw [byPL_len, hl]
      refine fin _ (by rw [parQ_len, hbl]) (parQ_all (byPL_all hZm (by omega) (by omega)) (by omega)) (fun c hc hc2 => ?_) (parQ_P (by omega) (byPL_P (by omega))) (parQ_Q (by omega))
      unfold parQ
      rw [get_out (by omega)]
      unfold byPL
      rw [get_out hc]
/-- what Fill makes of a row of which at most two columns are lost -/
theorem fill_col {R : List Txt} {lost : List Int} {m : Nat} (hO : OkM R lost) (h2 : lost.length ≤ 2) (hm : ∀ j, j < R.length → (j : Int) ∉ lost → (R.getD j []).length = m) : FillR R m lost (fillF R lost) := by
  have h4 := hO.n4
  have h10 := hO.n10
  match lost, h2, hO, hm with
  | [], _, _, hm =>
    rw [fill_none]
    exact ⟨rfl, fun j hj => hm j hj (by simp), fun c _ => rfl, fun j => ⟨fun h => absurd h (by simp), fun i h => absurd h (by simp)⟩⟩
  | [x], _, hO, hm =>
    obtain ⟨h0, h1⟩ := hO.rng x (by simp)
    obtain ⟨i, rfl⟩ : ∃ i : Nat, x = (i : Int) := ⟨x.toNat, by omega⟩
    unfold fillF
    have : srt [(i : Int)] = [(i : Int)] := by
      have hl := srt_len [(i : Int)]
      match hq : srt [(i : Int)], hl with
      | [y], _ =>
        have : y ∈ srt [(i : Int)] := by rw [hq]; simp
        rw [srt_mem] at this
        simpa using this
    rw [this]
    exact fill_one h4 h10 (by omega) hm
  | [x, y], _, hO, hm =>
    obtain ⟨h0, h1⟩ := hO.rng x (by simp)
    obtain ⟨h2, h3⟩ := hO.rng y (by simp)
    obtain ⟨i, rfl⟩ : ∃ i : Nat, x = (i : Int) := ⟨x.toNat, by omega⟩
    obtain ⟨k, rfl⟩ : ∃ k : Nat, y = (k : Int) := ⟨y.toNat, by omega⟩
    have hik : i ≠ k := fun e => by have := hO.nodup; simp [e] at this
    unfold fillF
    rcases Nat.lt_or_gt_of_ne hik with hlt | hgt
    · rw [(srt_two (a := (i : Int)) (b := (k : Int)) (by omega)).1]
      exact fill_two h4 h10 hlt (by omega) hm
    · rw [(srt_two (a := (k : Int)) (b := (i : Int)) (by omega)).2]
      have hF := fill_two (R := R) (m := m) h4 h10 hgt (by omega) fun j hj hn => hm j hj (by simp at hn ⊢; omega)
      exact ⟨hF.len, hF.all, fun c hc => hF.out c (by simp at hc ⊢; omega), fun j => ⟨fun _ => (hF.fil j).two rfl, fun i' e => absurd e (by simp)⟩⟩
/-- a row of which the lost columns are as they are to be is what is filled -/
theorem fill_back {R B : List Txt} {lost : List Int} {m : Nat} (hO : OkM B lost) (h2 : lost.length ≤ 2) (hl : B.length = R.length) (hm : AllLen R m) (ho : ∀ c : Nat, c < R.length → (c : Int) ∉ lost → B.getD c [] = R.getD c []) (hF : ∀ j, Filled (R.length - 2) lost (col R j)) : fillF B lost = R := by
  have hf := fill_col hO h2 (m := m) fun j hj hn => by rw [ho j (by omega) hn]; exact hm j (by omega)
  have h4 := hO.n4
  have h10 := hO.n10
  refine row_ext (by rw [hf.len, hl]) hf.all hm fun j hj c hc => ?_
  have hfj := hf.fil j
  rw [hl] at hfj
  refine filled_unique (n := R.length - 2) (by omega) h2 hO.nodup (fun x hx => by have := hO.rng x hx; omega) hfj (hF j) (fun c hc hn => ?_) c (by have := hf.len; omega)
  unfold col
  rw [hf.out c hn, ho c (by omega) hn]
end Go.Proofs.YtdfkifgkccnaiaaGreatDoor
