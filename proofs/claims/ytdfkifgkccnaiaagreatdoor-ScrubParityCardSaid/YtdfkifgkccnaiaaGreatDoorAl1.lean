import Derived.Test.YtdfkifgkccnaiaaGreatDoorLa3
/-! Columns of a row, place by place: two good rows that differ in two columns are one. -/
namespace Go.Proofs.YtdfkifgkccnaiaaGreatDoor
open Go.Sh Go.RowKit
set_option linter.unusedVariables false
set_option linter.unusedSimpArgs false
set_option maxRecDepth 20000
set_option maxHeartbeats 2000000
/-- the sum of the first columns' bytes -/
def sx (f : Nat → UInt8) : Nat → UInt8
  | 0 => 0
  | n + 1 => sx f n ^^^ f n
/-- each times its power -/
def wq (f : Nat → UInt8) : Nat → UInt8 := fun c => xp c (f c)
def col (L : List Txt) (j : Nat) : Nat → UInt8 := fun c => (L.getD c []).getD j 0
theorem sx_congr {f g : Nat → UInt8} : ∀ {n : Nat}, (∀ c, c < n → f c = g c) → sx f n = sx g n
  | 0, _ => rfl
  | n + 1, h => by simp only [sx]; rw [sx_congr fun c hc => h c (by omega), h n (by omega)]
theorem xor4 (a b c d : UInt8) : (a ^^^ b) ^^^ (c ^^^ d) = (a ^^^ c) ^^^ (b ^^^ d) := by
  rw [UInt8.xor_assoc, UInt8.xor_assoc, ← UInt8.xor_assoc b, UInt8.xor_comm b c, UInt8.xor_assoc c]
theorem sx_xor (f g : Nat → UInt8) : ∀ n, sx (fun c => f c ^^^ g c) n = sx f n ^^^ sx g n
  | 0 => by simp [sx]
  | n + 1 => by simp only [sx]; rw [sx_xor f g n, xor4]
theorem sx_zero {f : Nat → UInt8} : ∀ {n : Nat}, (∀ c, c < n → f c = 0) → sx f n = 0
  | 0, _ => rfl
  | n + 1, h => by simp only [sx]; rw [sx_zero fun c hc => h c (by omega), h n (by omega)]; rfl
theorem sx_one {f : Nat → UInt8} {i : Nat} : ∀ {n : Nat}, i < n → (∀ c, c < n → c ≠ i → f c = 0) → sx f n = f i
  | n + 1, hi, h => by
    simp only [sx]
    by_cases e : i = n
    · subst e
      rw [sx_zero fun c hc => h c (by omega) (by omega), UInt8.zero_xor]
    · rw [sx_one (by omega) fun c hc => h c (by omega), h n (by omega) (by omega), UInt8.xor_zero]
theorem sx_two {f : Nat → UInt8} {i k : Nat} (hik : i < k) : ∀ {n : Nat}, k < n → (∀ c, c < n → c ≠ i → c ≠ k → f c = 0) → sx f n = f i ^^^ f k
  | n + 1, hk, h => by
    simp only [sx]
    by_cases e : k = n
    · subst e
      rw [sx_one hik fun c hc hi => h c (by omega) hi (by omega)]
    · rw [sx_two hik (by omega) fun c hc => h c (by omega), h n (by omega) (by omega) (by omega), UInt8.xor_zero]
def PRel (f : Nat → UInt8) (n : Nat) : Prop := f n = sx f n
def QRel (f : Nat → UInt8) (n : Nat) : Prop := f (n + 1) = sx (wq f) n
theorem wq_xor (f g : Nat → UInt8) : wq (fun c => f c ^^^ g c) = fun c => wq f c ^^^ wq g c := by funext c; exact xp_xor _ _ _
theorem PRel.xor {f g : Nat → UInt8} {n : Nat} (hf : PRel f n) (hg : PRel g n) : PRel (fun c => f c ^^^ g c) n := by
  unfold PRel at *; rw [sx_xor]; show f n ^^^ g n = _; rw [hf, hg]
theorem QRel.xor {f g : Nat → UInt8} {n : Nat} (hf : QRel f n) (hg : QRel g n) : QRel (fun c => f c ^^^ g c) n := by
  unfold QRel at *; rw [wq_xor, sx_xor]; show f (n + 1) ^^^ g (n + 1) = _; rw [hf, hg]
theorem wq_zero {f : Nat → UInt8} {c : Nat} (h : f c = 0) : wq f c = 0 := by unfold wq; rw [h, xp_zero]
theorem xp_eq_zero {k : Nat} {x : UInt8} (h : xp k x = 0) : x = 0 := Classical.byContradiction fun e => xp_ne e h
theorem xp_two {i k : Nat} {x : UInt8} (hi : i < 255) (hk : k < 255) (hik : i ≠ k) (h : xp i x = xp k x) : x = 0 :=
  Classical.byContradiction fun e => hik (ex_inj hi hk (by
    rw [← mulG_ex, ← mulG_ex, mulG_comm, mulG_comm x] at h
    exact mulG_inj e h))
theorem two_zero {d : Nat → UInt8} {n i k : Nat} (hP : PRel d n) (hQ : QRel d n) (hik : i < k) (hk : k ≤ n + 1) (hn : n ≤ 253) (hz : ∀ c, c < n + 2 → c ≠ i → c ≠ k → d c = 0) : d i = 0 ∧ d k = 0 := by
  unfold PRel at hP
  unfold QRel at hQ
  rcases Nat.lt_trichotomy k n with h | h | h
  · rw [hz n (by omega) (by omega) (by omega), sx_two hik h fun c hc => hz c (by omega)] at hP
    rw [hz (n + 1) (by omega) (by omega) (by omega), sx_two hik h fun c hc h1 h2 => wq_zero (hz c (by omega) h1 h2)] at hQ
    have e1 := UInt8.xor_eq_zero_iff.1 hP.symm
    have e2 : xp i (d i) = xp k (d k) := UInt8.xor_eq_zero_iff.1 hQ.symm
    rw [← e1] at e2
    have e3 := xp_two (by omega) (by omega) (by omega) e2
    exact ⟨e3, by rw [← e1]; exact e3⟩
  · subst h
    rw [hz (k + 1) (by omega) (by omega) (by omega), sx_one hik fun c hc h1 => wq_zero (hz c (by omega) h1 (by omega))] at hQ
    have e1 := xp_eq_zero hQ.symm
    rw [sx_one hik fun c hc h1 => hz c (by omega) h1 (by omega), e1] at hP
    exact ⟨e1, hP⟩
  · obtain rfl : k = n + 1 := by omega
    by_cases hi : i = n
    · subst hi
      rw [sx_zero fun c hc => hz c (by omega) (by omega) (by omega)] at hP
      rw [sx_zero fun c hc => wq_zero (hz c (by omega) (by omega) (by omega))] at hQ
      exact ⟨hP, hQ⟩
    · have hi' : i < n := by omega
      rw [hz n (by omega) (by omega) (by omega), sx_one hi' fun c hc h1 => hz c (by omega) h1 (by omega)] at hP
      rw [sx_one hi' fun c hc h1 => wq_zero (hz c (by omega) h1 (by omega)), wq_zero hP.symm] at hQ
      exact ⟨hP.symm, hQ⟩
theorem one_zero {d : Nat → UInt8} {n i : Nat} (hP : i ≤ n → PRel d n) (hQ : i = n + 1 → QRel d n) (hi : i ≤ n + 1) (hz : ∀ c, c < n + 2 → c ≠ i → d c = 0) : d i = 0 := by
  rcases Nat.lt_trichotomy i n with h | h | h
  · have := hP (by omega)
    unfold PRel at this
    rw [hz n (by omega) (by omega), sx_one h fun c hc h1 => hz c (by omega) h1] at this
    exact this.symm
  · subst h
    have := hP (by omega)
    unfold PRel at this
    rw [this, sx_zero fun c hc => hz c (by omega) (by omega)]
  · obtain rfl : i = n + 1 := by omega
    have := hQ rfl
    unfold QRel at this
    rw [this, sx_zero fun c hc => wq_zero (hz c (by omega) (by omega))]
/-- what the lost columns are to be -/
structure Filled (n : Nat) (lost : List Int) (f : Nat → UInt8) : Prop where
  two : lost.length = 2 → PRel f n ∧ QRel f n
  one : ∀ i : Nat, lost = [(i : Int)] → (i ≤ n → PRel f n) ∧ (i = n + 1 → QRel f n)
theorem Filled.good {n : Nat} {f : Nat → UInt8} (hP : PRel f n) (hQ : QRel f n) (lost : List Int) : Filled n lost f := ⟨fun _ => ⟨hP, hQ⟩, fun _ _ => ⟨fun _ => hP, fun _ => hQ⟩⟩
theorem filled_unique {n : Nat} {lost : List Int} {f g : Nat → UInt8} (hn : n ≤ 253) (hl : lost.length ≤ 2) (hnd : lost.Nodup) (hr : ∀ x ∈ lost, 0 ≤ x ∧ x < (n : Int) + 2) (hf : Filled n lost f) (hg : Filled n lost g)
    (h : ∀ c : Nat, c < n + 2 → (c : Int) ∉ lost → f c = g c) : ∀ c, c < n + 2 → f c = g c := by
  have out : ∀ c, f c ^^^ g c = 0 → f c = g c := fun c e => UInt8.xor_eq_zero_iff.1 e
  have inn : ∀ c, f c = g c → f c ^^^ g c = 0 := fun c e => UInt8.xor_eq_zero_iff.2 e
  match lost, hl with
  | [], _ => exact fun c hc => h c hc (by simp)
  | [x], _ =>
    obtain ⟨h0, h1⟩ := hr x (by simp)
    obtain ⟨i, rfl⟩ : ∃ i : Nat, x = (i : Int) := ⟨x.toNat, by omega⟩
    have hF := hf.one i rfl
    have hG := hg.one i rfl
    have key := one_zero (d := fun c => f c ^^^ g c) (n := n) (i := i) (fun hi => (hF.1 hi).xor (hG.1 hi)) (fun hi => (hF.2 hi).xor (hG.2 hi)) (by omega) fun c hc hci => inn c (h c hc (by simp; omega))
    intro c hc
    by_cases e : c = i
    · subst e; exact out c key
    · exact h c hc (by simp; omega)
  | [x, y], _ =>
    obtain ⟨h0, h1⟩ := hr x (by simp)
    obtain ⟨h2, h3⟩ := hr y (by simp)
    obtain ⟨i, rfl⟩ : ∃ i : Nat, x = (i : Int) := ⟨x.toNat, by omega⟩
    obtain ⟨k, rfl⟩ : ∃ k : Nat, y = (k : Int) := ⟨y.toNat, by omega⟩
    have hik : i ≠ k := fun e => by simp [e] at hnd
    have hF := hf.two rfl
    have hG := hg.two rfl
    have hP := hF.1.xor hG.1
    have hQ := hF.2.xor hG.2
    have hz : ∀ c, c < n + 2 → c ≠ i → c ≠ k → f c ^^^ g c = 0 := fun c hc hci hck => inn c (h c hc (by simp; omega))
    have key : f i ^^^ g i = 0 ∧ f k ^^^ g k = 0 := by
      rcases Nat.lt_or_gt_of_ne hik with hlt | hgt
      · exact two_zero (d := fun c => f c ^^^ g c) hP hQ hlt (by omega) hn hz
      · exact (two_zero (d := fun c => f c ^^^ g c) hP hQ hgt (by omega) hn fun c hc h1 h2 => hz c hc h2 h1).symm
    intro c hc
    by_cases e : c = i
    · subst e; exact out c key.1
    · by_cases e2 : c = k
      · subst e2; exact out c key.2
      · exact h c hc (by simp; omega)
/-! columns of texts -/
theorem timesL_get (l : Txt) (b : UInt8) (j : Nat) : (timesL l b).getD j 0 = mulG (l.getD j 0) b := by
  unfold timesL
  simp only [List.getD_eq_getElem?_getD, List.getElem?_map]
  cases l[j]? with
  | none => simp [zero_mulG]
  | some x => rfl
theorem sAcc_col (L : List Txt) (j : Nat) : ∀ m, (sAcc L m).getD j 0 = sx (col L j) m
  | 0 => by simp [sAcc, sx]
  | m + 1 => by simp only [sAcc, sx, xorT_get, sAcc_col L j m]; rfl
theorem qAcc_col (L : List Txt) (j : Nat) : ∀ m, (qAcc L m).getD j 0 = sx (wq (col L j)) m
  | 0 => by simp [qAcc, sx]
  | m + 1 => by simp only [qAcc, sx, xorT_get, qAcc_col L j m, timesL_get, mulG_ex]; rfl
theorem col_take (L : List Txt) (j n : Nat) : ∀ c, c < n → col (L.take n) j c = col L j c := fun c hc => by unfold col; rw [take_get _ _ _ hc]
theorem sumT_col {L : List Txt} {n : Nat} (h : n ≤ L.length) (j : Nat) : (sumT (L.take n)).getD j 0 = sx (col L j) n := by
  unfold sumT
  rw [sAcc_col, List.length_take, Nat.min_eq_left h]
  exact sx_congr fun c hc => col_take L j n c hc
theorem qT_col {L : List Txt} {n : Nat} (h : n ≤ L.length) (j : Nat) : (qT (L.take n)).getD j 0 = sx (wq (col L j)) n := by
  unfold qT
  rw [qAcc_col, List.length_take, Nat.min_eq_left h]
  exact sx_congr fun c hc => congrArg (xp c) (col_take L j n c hc)
theorem synP_col (L : List Txt) (j : Nat) : (synP L).getD j 0 = sx (col L j) (L.length - 2) ^^^ col L j (L.length - 2) := by
  unfold synP; rw [xorT_get, sumT_col (by omega)]; rfl
theorem synQ_col (L : List Txt) (j : Nat) : (synQ L).getD j 0 = sx (wq (col L j)) (L.length - 2) ^^^ col L j (L.length - 1) := by
  unfold synQ; rw [xorT_get, qT_col (by omega)]; rfl
theorem col_set {L : List Txt} {i : Nat} (hi : i < L.length) (x : Txt) (j c : Nat) : col (L.set i x) j c = if i = c then x.getD j 0 else col L j c := by
  unfold col
  rw [getD_set _ _ _ _ hi]
  split <;> rfl
theorem AllLen.set {L : List Txt} {m : Nat} (h : AllLen L m) {x : Txt} (hx : x.length = m) (i : Nat) : AllLen (L.set i x) m := fun j hj => by
  rw [List.length_set] at hj
  by_cases hi : i < L.length
  · rw [getD_set _ _ _ _ hi]
    split
    · exact hx
    · exact h j hj
  · rw [List.set_eq_of_length_le (by omega)]; exact h j hj
theorem sumT_all {L : List Txt} {m n : Nat} (h : AllLen L m) (h0 : 0 < n) (hn : n ≤ L.length) : (sumT (L.take n)).length = m := by
  refine sAcc_all ?_ _ (by rw [List.length_take]; omega) (Nat.le_refl _)
  intro j hj
  rw [List.length_take] at hj
  rw [take_get _ _ _ (by omega)]
  exact h j (by omega)
theorem qT_all {L : List Txt} {m n : Nat} (h : AllLen L m) (h0 : 0 < n) (hn : n ≤ L.length) : (qT (L.take n)).length = m := by
  refine qAcc_all ?_ _ (by rw [List.length_take]; omega) (Nat.le_refl _)
  intro j hj
  rw [List.length_take] at hj
  rw [take_get _ _ _ (by omega)]
  exact h j (by omega)
theorem synP_all {L : List Txt} {m : Nat} (h : AllLen L m) (h3 : 3 ≤ L.length) : (synP L).length = m := by
  unfold synP
  rw [xorT_len, sumT_all h (by omega) (by omega), h _ (by omega)]; omega
theorem synQ_all {L : List Txt} {m : Nat} (h : AllLen L m) (h3 : 3 ≤ L.length) : (synQ L).length = m := by
  unfold synQ
  rw [xorT_len, qT_all h (by omega) (by omega), h _ (by omega)]; omega
/-- a row is told by its columns, place by place -/
theorem row_ext {A B : List Txt} {m : Nat} (hl : A.length = B.length) (ha : AllLen A m) (hb : AllLen B m) (h : ∀ j, j < m → ∀ c, c < A.length → col A j c = col B j c) : A = B :=
  list_ext hl fun c hc => ext_getD (by rw [ha c hc, hb c (by omega)]) fun j hj => h j (by rw [← ha c hc]; exact hj) c hc
end Go.Proofs.YtdfkifgkccnaiaaGreatDoor
