import Derived.Test.YtedbbdeeofdepaaGreatN11
import Derived.Test.YtedbbdeeofdepaaGreatN12
import Derived.Test.YtedbbdeeofdepaaGreatN13
section
/-! What the laws of rows share: Same, texts as lists of bytes, how many columns. -/
namespace Go.Proofs.YtedbbdeeofdepaaGreat
open Go.Sh Go.RowKit
set_option linter.unusedVariables false
set_option linter.unusedSimpArgs false
set_option maxRecDepth 20000
set_option maxHeartbeats 2000000
theorem same_spec {A B : List Txt} {p q : Option Addr} {c d : Nat} {w : World} (hl : A.length ≤ 1000000) (hp : strsL w p A) (hq : strsL w q B) : Ret Tryz.prog 29 #[.slice p A.length c, .slice q B.length d] w (.bool (decide (A = B))) := by
  refine ret_of (revetmentref06_Same_calls ?_)
  unfold revetmentref06_Same
  refine ⟨bne_t fun hne => ⟨by rw [decide_eq_false (fun e => hne (by rw [e]))], Ext.refl w⟩, bne_f fun he => ?_⟩
  have he : A.length = B.length := by omega
  refine ⟨fun vs w' => Ext w w' ∧ ∃ i : Nat, vs = [.int .i64 (i : Int)] ∧ i ≤ A.length ∧ A.take i = B.take i, fun vs _ => match vs with | [.int _ i] => (A.length - i).toNat | _ => 0, ⟨.refl w, 0, rfl, by omega, rfl⟩, ?_⟩
  rintro vs w1 ⟨hx, i, rfl, hi, hs⟩
  refine ⟨_, rfl, dec_t fun hlt => ?_, dec_f fun hge => ?_⟩
  · have hlt : i < A.length := by omega
    obtain ⟨a, ha, _⟩ := hp.get hlt
    obtain ⟨b, hb, _⟩ := hq.get (n := i) (by omega)
    have hgA : A.getD i [] = A[i] := by simp [List.getD, hlt]
    have hgB : B.getD i [] = B[i]'(by omega) := by simp [List.getD, show i < B.length by omega]
    refine ⟨fun w' => Ext w w', hx.drew, a, ha, by omega, by omega, strB (A.getD i []), fun w' h' => ?_, b, hb, by omega, by omega, strB (B.getD i []), fun w' h' => ?_, ?_⟩
    · obtain ⟨a', ha', hc⟩ := (hp.ext h').get hlt
      rw [ha] at ha'; cases ha'
      rw [Int.toNat_natCast]; exact hc
    · obtain ⟨b', hb', hc⟩ := (hq.ext h').get (n := i) (by omega)
      rw [hb] at hb'; cases hb'
      rw [Int.toNat_natCast]; exact hc
    · rw [strB_toList, strB_toList, hgA, hgB]
      by_cases heq : A[i] = B[i]'(by omega)
      · rw [heq]
        refine no (by simp) ⟨⟨hx.drew, i + 1, ?_, by omega, ?_⟩, ?_⟩
        · rw [wrap64 _ (by omega) (by omega)]; rfl
        · rw [List.take_add_one, List.take_add_one, hs, List.getElem?_eq_getElem hlt, List.getElem?_eq_getElem (show i < B.length by omega), heq]
        · show ((A.length : Int) - IntKind.i64.wrap ((i : Int) + 1)).toNat < ((A.length : Int) - (i : Int)).toNat
          rw [wrap64 _ (by omega) (by omega)]; omega
      · refine yes (by simpa using heq) ⟨?_, hx.drew⟩
        rw [decide_eq_false]
        intro e
        subst e
        exact heq rfl
  · have hie : i = A.length := by omega
    subst hie
    rw [List.take_length, he, List.take_length] at hs
    exact ⟨by rw [decide_eq_true hs], hx⟩
theorem srt_two {a b : Int} (h : a < b) : srt [a, b] = [a, b] ∧ srt [b, a] = [a, b] := by
  have key : ∀ l : List Int, l.length = 2 → (∀ x, x ∈ l ↔ (x = a ∨ x = b)) → srt l = [a, b] := by
    intro l hl hm
    have hlen := srt_len l
    have hs : (srt l).Pairwise fun x y => decide (x ≤ y) = true := List.pairwise_mergeSort (fun x y z h1 h2 => by simp at *; omega) (fun x y => by simp; omega) l
    match hq : srt l, (by rw [hlen, hl] : (srt l).length = 2) with
    | [x, y], _ =>
      rw [hq] at hs
      have hxy : x ≤ y := by simpa using hs
      have ha : a ∈ [x, y] := by rw [← hq, srt_mem, hm]; exact .inl rfl
      have hb : b ∈ [x, y] := by rw [← hq, srt_mem, hm]; exact .inr rfl
      simp only [List.mem_cons, List.not_mem_nil, or_false] at ha hb
      have : x = a ∧ y = b := by omega
      rw [this.1, this.2]
  exact ⟨key _ rfl fun x => by simp, key _ rfl fun x => by simp [or_comm]⟩
end Go.Proofs.YtedbbdeeofdepaaGreat
end
section
/-! refill: Make; what is filled where P and Q are lost. -/
namespace Go.Proofs.YtedbbdeeofdepaaGreat
open Go.Sh Go.RowKit
set_option linter.unusedVariables false
set_option linter.unusedSimpArgs false
set_option maxRecDepth 20000
set_option maxHeartbeats 2000000
/-- all columns are of this length -/
def AllLen (L : List Txt) (m : Nat) : Prop := ∀ j, j < L.length → (L.getD j []).length = m
theorem sAcc_all {L : List Txt} {m : Nat} (h : AllLen L m) : ∀ k, 0 < k → k ≤ L.length → (sAcc L k).length = m
  | 1, _, h1 => by simp only [sAcc, xorT_len]; rw [h 0 (by omega)]; simp
  | k + 2, _, h2 => by
    have := sAcc_all h (k + 1) (by omega) (by omega)
    simp only [sAcc, xorT_len] at this ⊢
    rw [h (k + 1) (by omega)]; omega
theorem qAcc_all {L : List Txt} {m : Nat} (h : AllLen L m) : ∀ k, 0 < k → k ≤ L.length → (qAcc L k).length = m
  | 1, _, h1 => by simp only [qAcc, xorT_len, timesL_len]; rw [h 0 (by omega)]; simp
  | k + 2, _, h2 => by
    have := qAcc_all h (k + 1) (by omega) (by omega)
    simp only [qAcc, xorT_len, timesL_len] at this ⊢
    rw [h (k + 1) (by omega)]; omega
theorem take_get (L : List Txt) (n j : Nat) (h : j < n) : (L.take n).getD j [] = L.getD j [] := by simp [List.getD, h]
theorem list_ext {A B : List Txt} (h : A.length = B.length) (hg : ∀ j, j < A.length → A.getD j [] = B.getD j []) : A = B := by
  apply List.ext_getElem h
  intro j h1 h2
  have := hg j h1
  simpa [List.getD, h1, h2] using this
theorem getD_set (L : List Txt) (i j : Nat) (x : Txt) (hi : i < L.length) : (L.set i x).getD j [] = if i = j then x else L.getD j [] := by
  simp only [List.getD_eq_getElem?_getD, List.getElem?_set]
  by_cases h : i = j
  · rw [if_pos h, if_pos hi, if_pos h]; rfl
  · rw [if_neg h, if_neg h]
theorem fill_none (R : List Txt) : fillF R [] = R := by
  have : srt [] = [] := List.eq_nil_of_length_eq_zero (srt_len [])
  unfold fillF fillS
  rw [this]
  show fillK (kindA _ [] 0 0) (kindA _ [] 1 0) _ _ _ = _
  have e : ∀ n j, kindA n [] j 0 = 0 := fun n j => by unfold kindA; rw [if_neg (by simp)]
  rw [e, e]
  rfl
end Go.Proofs.YtedbbdeeofdepaaGreat
end
section
/-! Columns of a row, place by place: two good rows that differ in two columns are one. -/
namespace Go.Proofs.YtedbbdeeofdepaaGreat
open Go.Sh Go.RowKit
set_option linter.unusedVariables false
set_option linter.unusedSimpArgs false
set_option maxRecDepth 20000
set_option maxHeartbeats 2000000
/-- the sum of the first columns' bytes -/
def sx (f : Nat → UInt8) : Nat → UInt8
  | 0 => 0
  | n + 1 => sx f n ^^^ f n
/-- each times its power -/
def wq (f : Nat → UInt8) : Nat → UInt8 := fun c => xp c (f c)
def col (L : List Txt) (j : Nat) : Nat → UInt8 := fun c => (L.getD c []).getD j 0
theorem sx_congr {f g : Nat → UInt8} : ∀ {n : Nat}, (∀ c, c < n → f c = g c) → sx f n = sx g n
  | 0, _ => rfl
  | n + 1, h => by simp only [sx]; rw [sx_congr fun c hc => h c (by omega), h n (by omega)]
theorem xor4 (a b c d : UInt8) : (a ^^^ b) ^^^ (c ^^^ d) = (a ^^^ c) ^^^ (b ^^^ d) := by
  rw [UInt8.xor_assoc, UInt8.xor_assoc, ← UInt8.xor_assoc b, UInt8.xor_comm b c, UInt8.xor_assoc c]
theorem sx_xor (f g : Nat → UInt8) : ∀ n, sx (fun c => f c ^^^ g c) n = sx f n ^^^ sx g n
  | 0 => by simp [sx]
  | n + 1 => by simp only [sx]; rw [sx_xor f g n, xor4]
theorem sx_zero {f : Nat → UInt8} : ∀ {n : Nat}, (∀ c, c < n → f c = 0) → sx f n = 0
  | 0, _ => rfl
  | n + 1, h => by simp only [sx]; rw [sx_zero fun c hc => h c (by omega), h n (by omega)]; rfl
theorem sx_one {f : Nat → UInt8} {i : Nat} : ∀ {n : Nat}, i < n → (∀ c, c < n → c ≠ i → f c = 0) → sx f n = f i
  | n + 1, hi, h => by
    simp only [sx]
    by_cases e : i = n
    · subst e
      rw [sx_zero fun c hc => h c (by omega) (by omega), UInt8.zero_xor]
    · rw [sx_one (by omega) fun c hc => h c (by omega), h n (by omega) (by omega), UInt8.xor_zero]
theorem sx_two {f : Nat → UInt8} {i k : Nat} (hik : i < k) : ∀ {n : Nat}, k < n → (∀ c, c < n → c ≠ i → c ≠ k → f c = 0) → sx f n = f i ^^^ f k
  | n + 1, hk, h => by
    simp only [sx]
    by_cases e : k = n
    · subst e
      rw [sx_one hik fun c hc hi => h c (by omega) hi (by omega)]
    · rw [sx_two hik (by omega) fun c hc => h c (by omega), h n (by omega) (by omega) (by omega), UInt8.xor_zero]
def PRel (f : Nat → UInt8) (n : Nat) : Prop := f n = sx f n
def QRel (f : Nat → UInt8) (n : Nat) : Prop := f (n + 1) = sx (wq f) n
theorem wq_xor (f g : Nat → UInt8) : wq (fun c => f c ^^^ g c) = fun c => wq f c ^^^ wq g c := by funext c; exact xp_xor _ _ _
theorem PRel.xor {f g : Nat → UInt8} {n : Nat} (hf : PRel f n) (hg : PRel g n) : PRel (fun c => f c ^^^ g c) n := by
  unfold PRel at *; rw [sx_xor]; show f n ^^^ g n = _; rw [hf, hg]
theorem QRel.xor {f g : Nat → UInt8} {n : Nat} (hf : QRel f n) (hg : QRel g n) : QRel (fun c => f c ^^^ g c) n := by
  unfold QRel at *; rw [wq_xor, sx_xor]; show f (n + 1) ^^^ g (n + 1) = _; rw [hf, hg]
theorem wq_zero {f : Nat → UInt8} {c : Nat} (h : f c = 0) : wq f c = 0 := by unfold wq; rw [h, xp_zero]
theorem xp_eq_zero {k : Nat} {x : UInt8} (h : xp k x = 0) : x = 0 := Classical.byContradiction fun e => xp_ne e h
theorem xp_two {i k : Nat} {x : UInt8} (hi : i < 255) (hk : k < 255) (hik : i ≠ k) (h : xp i x = xp k x) : x = 0 :=
  Classical.byContradiction fun e => hik (ex_inj hi hk (by
    rw [← mulG_ex, ← mulG_ex, mulG_comm, mulG_comm x] at h
    exact mulG_inj e h))
theorem two_zero {d : Nat → UInt8} {n i k : Nat} (hP : PRel d n) (hQ : QRel d n) (hik : i < k) (hk : k ≤ n + 1) (hn : n ≤ 253) (hz : ∀ c, c < n + 2 → c ≠ i → c ≠ k → d c = 0) : d i = 0 ∧ d k = 0 := by
  unfold PRel at hP
  unfold QRel at hQ
  rcases Nat.lt_trichotomy k n with h | h | h
  · rw [hz n (by omega) (by omega) (by omega), sx_two hik h fun c hc => hz c (by omega)] at hP
    rw [hz (n + 1) (by omega) (by omega) (by omega), sx_two hik h fun c hc h1 h2 => wq_zero (hz c (by omega) h1 h2)] at hQ
    have e1 := UInt8.xor_eq_zero_iff.1 hP.symm
    have e2 : xp i (d i) = xp k (d k) := UInt8.xor_eq_zero_iff.1 hQ.symm
    rw [← e1] at e2
    have e3 := xp_two (by omega) (by omega) (by omega) e2
    exact ⟨e3, by rw [← e1]; exact e3⟩
  · subst h
    rw [hz (k + 1) (by omega) (by omega) (by omega), sx_one hik fun c hc h1 => wq_zero (hz c (by omega) h1 (by omega))] at hQ
    have e1 := xp_eq_zero hQ.symm
    rw [sx_one hik fun c hc h1 => hz c (by omega) h1 (by omega), e1] at hP
    exact ⟨e1, hP⟩
  · obtain rfl : k = n + 1 := by omega
    by_cases hi : i = n
    · subst hi
      rw [sx_zero fun c hc => hz c (by omega) (by omega) (by omega)] at hP
      rw [sx_zero fun c hc => wq_zero (hz c (by omega) (by omega) (by omega))] at hQ
      exact ⟨hP, hQ⟩
    · have hi' : i < n := by omega
      rw [hz n (by omega) (by omega) (by omega), sx_one hi' fun c hc h1 => hz c (by omega) h1 (by omega)] at hP
      rw [sx_one hi' fun c hc h1 => wq_zero (hz c (by omega) h1 (by omega)), wq_zero hP.symm] at hQ
      exact ⟨hP.symm, hQ⟩
theorem one_zero {d : Nat → UInt8} {n i : Nat} (hP : i ≤ n → PRel d n) (hQ : i = n + 1 → QRel d n) (hi : i ≤ n + 1) (hz : ∀ c, c < n + 2 → c ≠ i → d c = 0) : d i = 0 := by
  rcases Nat.lt_trichotomy i n with h | h | h
  · have := hP (by omega)
    unfold PRel at this
    rw [hz n (by omega) (by omega), sx_one h fun c hc h1 => hz c (by omega) h1] at this
    exact this.symm
  · subst h
    have := hP (by omega)
    unfold PRel at this
    rw [this, sx_zero fun c hc => hz c (by omega) (by omega)]
  · obtain rfl : i = n + 1 := by omega
    have := hQ rfl
    unfold QRel at this
    rw [this, sx_zero fun c hc => wq_zero (hz c (by omega) (by omega))]
/-- what the lost columns are to be -/
structure Filled (n : Nat) (lost : List Int) (f : Nat → UInt8) : Prop where
  two : lost.length = 2 → PRel f n ∧ QRel f n
  one : ∀ i : Nat, lost = [(i : Int)] → (i ≤ n → PRel f n) ∧ (i = n + 1 → QRel f n)
theorem Filled.good {n : Nat} {f : Nat → UInt8} (hP : PRel f n) (hQ : QRel f n) (lost : List Int) : Filled n lost f := ⟨fun _ => ⟨hP, hQ⟩, fun _ _ => ⟨fun _ => hP, fun _ => hQ⟩⟩
theorem filled_unique {n : Nat} {lost : List Int} {f g : Nat → UInt8} (hn : n ≤ 253) (hl : lost.length ≤ 2) (hnd : lost.Nodup) (hr : ∀ x ∈ lost, 0 ≤ x ∧ x < (n : Int) + 2) (hf : Filled n lost f) (hg : Filled n lost g)
    (h : ∀ c : Nat, c < n + 2 → (c : Int) ∉ lost → f c = g c) : ∀ c, c < n + 2 → f c = g c := by
  have out : ∀ c, f c ^^^ g c = 0 → f c = g c := fun c e => UInt8.xor_eq_zero_iff.1 e
  have inn : ∀ c, f c = g c → f c ^^^ g c = 0 := fun c e => UInt8.xor_eq_zero_iff.2 e
  match lost, hl with
  | [], _ => exact fun c hc => h c hc (by simp)
  | [x], _ =>
    obtain ⟨h0, h1⟩ := hr x (by simp)
    obtain ⟨i, rfl⟩ : ∃ i : Nat, x = (i : Int) := ⟨x.toNat, by omega⟩
    have hF := hf.one i rfl
    have hG := hg.one i rfl
    have key := one_zero (d := fun c => f c ^^^ g c) (n := n) (i := i) (fun hi => (hF.1 hi).xor (hG.1 hi)) (fun hi => (hF.2 hi).xor (hG.2 hi)) (by omega) fun c hc hci => inn c (h c hc (by simp; omega))
    intro c hc
    by_cases e : c = i
    · subst e; exact out c key
    · exact h c hc (by simp; omega)
  | [x, y], _ =>
    obtain ⟨h0, h1⟩ := hr x (by simp)
    obtain ⟨h2, h3⟩ := hr y (by simp)
    obtain ⟨i, rfl⟩ : ∃ i : Nat, x = (i : Int) := ⟨x.toNat, by omega⟩
    obtain ⟨k, rfl⟩ : ∃ k : Nat, y = (k : Int) := ⟨y.toNat, by omega⟩
    have hik : i ≠ k := fun e => by simp [e] at hnd
    have hF := hf.two rfl
    have hG := hg.two rfl
    have hP := hF.1.xor hG.1
    have hQ := hF.2.xor hG.2
    have hz : ∀ c, c < n + 2 → c ≠ i → c ≠ k → f c ^^^ g c = 0 := fun c hc hci hck => inn c (h c hc (by simp; omega))
    have key : f i ^^^ g i = 0 ∧ f k ^^^ g k = 0 := by
      rcases Nat.lt_or_gt_of_ne hik with hlt | hgt
      · exact two_zero (d := fun c => f c ^^^ g c) hP hQ hlt (by omega) hn hz
      · exact (two_zero (d := fun c => f c ^^^ g c) hP hQ hgt (by omega) hn fun c hc h1 h2 => hz c hc h2 h1).symm
    intro c hc
    by_cases e : c = i
    · subst e; exact out c key.1
    · by_cases e2 : c = k
      · subst e2; exact out c key.2
      · exact h c hc (by simp; omega)
/-! columns of texts -/
theorem timesL_get (l : Txt) (b : UInt8) (j : Nat) : (timesL l b).getD j 0 = mulG (l.getD j 0) b := by
  unfold timesL
  simp only [List.getD_eq_getElem?_getD, List.getElem?_map]
  cases l[j]? with
  | none => simp [zero_mulG]
  | some x => rfl
theorem sAcc_col (L : List Txt) (j : Nat) : ∀ m, (sAcc L m).getD j 0 = sx (col L j) m
  | 0 => by simp [sAcc, sx]
  | m + 1 => by simp only [sAcc, sx, xorT_get, sAcc_col L j m]; rfl
theorem qAcc_col (L : List Txt) (j : Nat) : ∀ m, (qAcc L m).getD j 0 = sx (wq (col L j)) m
  | 0 => by simp [qAcc, sx]
  | m + 1 => by simp only [qAcc, sx, xorT_get, qAcc_col L j m, timesL_get, mulG_ex]; rfl
theorem col_take (L : List Txt) (j n : Nat) : ∀ c, c < n → col (L.take n) j c = col L j c := fun c hc => by unfold col; rw [take_get _ _ _ hc]
theorem sumT_col {L : List Txt} {n : Nat} (h : n ≤ L.length) (j : Nat) : (sumT (L.take n)).getD j 0 = sx (col L j) n := by
  unfold sumT
  rw [sAcc_col, List.length_take, Nat.min_eq_left h]
  exact sx_congr fun c hc => col_take L j n c hc
theorem qT_col {L : List Txt} {n : Nat} (h : n ≤ L.length) (j : Nat) : (qT (L.take n)).getD j 0 = sx (wq (col L j)) n := by
  unfold qT
  rw [qAcc_col, List.length_take, Nat.min_eq_left h]
  exact sx_congr fun c hc => congrArg (xp c) (col_take L j n c hc)
theorem synP_col (L : List Txt) (j : Nat) : (synP L).getD j 0 = sx (col L j) (L.length - 2) ^^^ col L j (L.length - 2) := by
  unfold synP; rw [xorT_get, sumT_col (by omega)]; rfl
theorem synQ_col (L : List Txt) (j : Nat) : (synQ L).getD j 0 = sx (wq (col L j)) (L.length - 2) ^^^ col L j (L.length - 1) := by
  unfold synQ; rw [xorT_get, qT_col (by omega)]; rfl
theorem col_set {L : List Txt} {i : Nat} (hi : i < L.length) (x : Txt) (j c : Nat) : col (L.set i x) j c = if i = c then x.getD j 0 else col L j c := by
  unfold col
  rw [getD_set _ _ _ _ hi]
  split <;> rfl
theorem AllLen.set {L : List Txt} {m : Nat} (h : AllLen L m) {x : Txt} (hx : x.length = m) (i : Nat) : AllLen (L.set i x) m := fun j hj => by
  rw [List.length_set] at hj
  by_cases hi : i < L.length
  · rw [getD_set _ _ _ _ hi]
    split
    · exact hx
    · exact h j hj
  · rw [List.set_eq_of_length_le (by omega)]; exact h j hj
theorem sumT_all {L : List Txt} {m n : Nat} (h : AllLen L m) (h0 : 0 < n) (hn : n ≤ L.length) : (sumT (L.take n)).length = m := by
  refine sAcc_all ?_ _ (by rw [List.length_take]; omega) (Nat.le_refl _)
  intro j hj
  rw [List.length_take] at hj
  rw [take_get _ _ _ (by omega)]
  exact h j (by omega)
theorem qT_all {L : List Txt} {m n : Nat} (h : AllLen L m) (h0 : 0 < n) (hn : n ≤ L.length) : (qT (L.take n)).length = m := by
  refine qAcc_all ?_ _ (by rw [List.length_take]; omega) (Nat.le_refl _)
  intro j hj
  rw [List.length_take] at hj
  rw [take_get _ _ _ (by omega)]
  exact h j (by omega)
theorem synP_all {L : List Txt} {m : Nat} (h : AllLen L m) (h3 : 3 ≤ L.length) : (synP L).length = m := by
  unfold synP
  rw [xorT_len, sumT_all h (by omega) (by omega), h _ (by omega)]; omega
theorem synQ_all {L : List Txt} {m : Nat} (h : AllLen L m) (h3 : 3 ≤ L.length) : (synQ L).length = m := by
  unfold synQ
  rw [xorT_len, qT_all h (by omega) (by omega), h _ (by omega)]; omega
/-- a row is told by its columns, place by place -/
theorem row_ext {A B : List Txt} {m : Nat} (hl : A.length = B.length) (ha : AllLen A m) (hb : AllLen B m) (h : ∀ j, j < m → ∀ c, c < A.length → col A j c = col B j c) : A = B :=
  list_ext hl fun c hc => ext_getD (by rw [ha c hc, hb c (by omega)]) fun j hj => h j (by rw [← ha c hc]; exact hj) c hc
end Go.Proofs.YtedbbdeeofdepaaGreat
end
section
/-! What Fill makes, place by place. -/
namespace Go.Proofs.YtedbbdeeofdepaaGreat
open Go.Sh Go.RowKit
set_option linter.unusedVariables false
set_option linter.unusedSimpArgs false
set_option maxRecDepth 20000
set_option maxHeartbeats 2000000
theorem exI_pos {i : Nat} (h : i < 255) : exI (i : Int) = ex i := by unfold exI; congr 1; omega
theorem exI_back {i : Nat} (h : i < 255) (x : UInt8) : xp i (mulG x (exI (0 - (i : Int)))) = x := by
  unfold exI
  rw [mulG_ex, ← xp_add]
  by_cases h0 : i = 0
  · subst h0; rfl
  · rw [show i + ((0 - (i : Int)) % 255).toNat = 255 by omega, xp_255]
theorem mulG_back {s : UInt8} (hs : s ≠ 0) (x : UInt8) : mulG (mulG x (invG s)) s = x := by
  have e : mulG (mulG x s) (invG s) = x := mulG_inv hs x
  unfold invG at e ⊢
  rw [mulG_ex] at e ⊢
  rw [mulG_xp _ hs] at e ⊢
  rw [xp_comm]; exact e
/-- P's sum is right, or Q's, at each place -/
def PAll (L : List Txt) : Prop := ∀ j, PRel (col L j) (L.length - 2)
def QAll (L : List Txt) : Prop := ∀ j, QRel (col L j) (L.length - 2)
theorem col_out {L : List Txt} {i c : Nat} (hi : i < L.length) (h : c ≠ i) (x : Txt) (j : Nat) : col (L.set i x) j c = col L j c := by rw [col_set hi, if_neg (Ne.symm h)]
theorem col_at {L : List Txt} {i : Nat} (hi : i < L.length) (x : Txt) (j : Nat) : col (L.set i x) j i = x.getD j 0 := by rw [col_set hi, if_pos rfl]
theorem sx_set {L : List Txt} {i n : Nat} (hi : i < n) (hn : n ≤ L.length) (x : Txt) (j : Nat) : sx (col (L.set i x) j) n = sx (col L j) n ^^^ (x.getD j 0 ^^^ col L j i) := by
  have h := sx_xor (col (L.set i x) j) (col L j) n
  rw [sx_one (f := fun c => col (L.set i x) j c ^^^ col L j c) hi fun c hc h1 => by rw [col_out (by omega) h1, UInt8.xor_self], col_at (by omega)] at h
  rw [h, UInt8.xor_comm, UInt8.xor_assoc, UInt8.xor_self, UInt8.xor_zero]
theorem sq_set {L : List Txt} {i n : Nat} (hi : i < n) (hn : n ≤ L.length) (x : Txt) (j : Nat) : sx (wq (col (L.set i x) j)) n = sx (wq (col L j)) n ^^^ xp i (x.getD j 0 ^^^ col L j i) := by
  have h := sx_xor (wq (col (L.set i x) j)) (wq (col L j)) n
  rw [sx_one (f := fun c => wq (col (L.set i x) j) c ^^^ wq (col L j) c) hi fun c hc h1 => by unfold wq; rw [col_out (by omega) h1, UInt8.xor_self]] at h
  unfold wq at h ⊢
  rw [col_at (by omega), ← xp_xor] at h
  rw [h, UInt8.xor_comm, UInt8.xor_assoc, UInt8.xor_self, UInt8.xor_zero]
theorem byPL_P {L : List Txt} {i : Nat} (h : i < L.length - 2) : PAll (byPL L i) := fun j => by
  unfold PRel byPL
  rw [List.length_set, sx_set h (by omega), col_out (by omega) (by omega), xorT_get, synP_col]
  show _ = _ ^^^ ((col L j i ^^^ _) ^^^ col L j i)
  rw [UInt8.xor_comm (col L j i), UInt8.xor_assoc _ (col L j i), UInt8.xor_self, UInt8.xor_zero, ← UInt8.xor_assoc, UInt8.xor_self, UInt8.zero_xor]
theorem byQL_Q {L : List Txt} {i : Nat} (h : i < L.length - 2) (h255 : i < 255) : QAll (byQL L i) := fun j => by
  unfold QRel byQL
  rw [List.length_set, sq_set h (by omega), col_out (by omega) (by omega), xorT_get, timesL_get, synQ_col]
  show _ = _ ^^^ xp i ((col L j i ^^^ _) ^^^ col L j i)
  rw [UInt8.xor_comm (col L j i), UInt8.xor_assoc _ (col L j i), UInt8.xor_self, UInt8.xor_zero, exI_back h255, ← UInt8.xor_assoc, UInt8.xor_self, UInt8.zero_xor]
  rw [show L.length - 2 + 1 = L.length - 1 by omega]
theorem parP_P {L : List Txt} (h : 2 ≤ L.length) : PAll (rparP L) := fun j => by
  unfold PRel
  rw [parP_len]
  unfold rparP
  rw [col_at (by omega), sumT_col (by omega)]
  exact sx_congr fun c hc => (col_out (by omega) (by omega) _ _).symm
theorem parP_Q {L : List Txt} (h : 2 ≤ L.length) (hQ : QAll L) : QAll (rparP L) := fun j => by
  have := hQ j
  unfold QRel at this ⊢
  rw [parP_len]
  unfold rparP
  rw [col_out (by omega) (by omega), this]
  exact sx_congr fun c hc => congrArg (xp c) (col_out (by omega) (by omega) _ _).symm
theorem parQ_len (L : List Txt) : (rparQ L).length = L.length := List.length_set
theorem parQ_Q {L : List Txt} (h : 2 ≤ L.length) : QAll (rparQ L) := fun j => by
  unfold QRel
  rw [parQ_len]
  unfold rparQ
  rw [show L.length - 2 + 1 = L.length - 1 by omega, col_at (by omega), qT_col (by omega)]
  exact sx_congr fun c hc => congrArg (xp c) (col_out (by omega) (by omega) _ _).symm
theorem parQ_P {L : List Txt} (h : 2 ≤ L.length) (hP : PAll L) : PAll (rparQ L) := fun j => by
  have := hP j
  unfold PRel at this ⊢
  rw [parQ_len]
  unfold rparQ
  rw [col_out (by omega) (by omega), this]
  exact sx_congr fun c hc => (col_out (by omega) (by omega) _ _).symm
theorem bothL_len (L : List Txt) (i k : Nat) : (bothL L i k).length = L.length := by simp [bothL]
theorem bothL_PQ {L : List Txt} {i k : Nat} (hik : i < k) (hk : k < L.length - 2) (h255 : k < 255) (hi0 : ∀ j, col L j i = 0) (hk0 : ∀ j, col L j k = 0) : PAll (bothL L i k) ∧ QAll (bothL L i k) := by
  have hs : ex i ^^^ ex k ≠ 0 := ex_sum_ne (by omega) h255 (by omega)
  have hB : ∀ j, xp i ((bothK L i k).getD j 0) ^^^ xp k ((bothK L i k).getD j 0) = (synQ L).getD j 0 ^^^ xp i ((synP L).getD j 0) := fun j => by
    unfold bothK
    rw [exI_pos (by omega), exI_pos h255, invF_ne hs, timesL_get, xorT_get, timesL_get, mulG_ex]
    generalize (synQ L).getD j 0 ^^^ xp i ((synP L).getD j 0) = u
    have := mulG_back hs u
    rw [mulG_xor', mulG_ex, mulG_ex] at this
    exact this
  refine ⟨fun j => ?_, fun j => ?_⟩
  · unfold PRel
    rw [bothL_len]
    unfold bothL
    rw [col_out (by simp; omega) (by omega), col_out (by omega) (by omega), sx_set (by omega) (by simp), sx_set hk (by omega), col_out (by omega) (by omega), hi0, hk0, xorT_get, UInt8.xor_zero, UInt8.xor_zero, synP_col]
    generalize (bothK L i k).getD j 0 = b
    rw [UInt8.xor_comm _ b, UInt8.xor_comm _ b, UInt8.xor_assoc, ← UInt8.xor_assoc _ b, UInt8.xor_comm _ b, UInt8.xor_assoc b, ← UInt8.xor_assoc b, UInt8.xor_self, UInt8.zero_xor, ← UInt8.xor_assoc, UInt8.xor_self, UInt8.zero_xor]
  · unfold QRel
    rw [bothL_len]
    unfold bothL
    rw [col_out (by simp; omega) (by omega), col_out (by omega) (by omega), sq_set (by omega) (by simp), sq_set hk (by omega), col_out (by omega) (by omega), hi0, hk0, xorT_get, UInt8.xor_zero, UInt8.xor_zero, xp_xor]
    have h1 := hB j
    rw [show L.length - 2 + 1 = L.length - 1 by omega]
    generalize (bothK L i k).getD j 0 = b at h1
    rw [UInt8.xor_assoc, UInt8.xor_comm (xp i _), ← UInt8.xor_assoc (xp k b), UInt8.xor_comm (xp k b), h1, synQ_col, UInt8.xor_assoc _ (xp i _), UInt8.xor_self, UInt8.xor_zero, ← UInt8.xor_assoc, UInt8.xor_self, UInt8.zero_xor]
/-- a row, filled: of one length, and right -/
structure FillR (R : List Txt) (m : Nat) (l : List Int) (F : List Txt) : Prop where
  len : F.length = R.length
  all : AllLen F m
  out : ∀ c : Nat, (c : Int) ∉ l → F.getD c [] = R.getD c []
  fil : ∀ j, Filled (R.length - 2) l (col F j)
theorem lastLen_eq {L : List Txt} {l : List Int} {m : Nat} (h : ∀ j, j < L.length → (j : Int) ∉ l → (L.getD j []).length = m) : ∀ i, i ≤ L.length → (∃ j, j < i ∧ (j : Int) ∉ l) → lastLen L l i = m
  | 0, _, ⟨j, hj, _⟩ => absurd hj (by omega)
  | i + 1, hi, ⟨j, hj, hn⟩ => by
    simp only [lastLen]
    by_cases e : (i : Int) ∈ l
    · rw [if_pos e]
      refine lastLen_eq h i (by omega) ⟨j, ?_, hn⟩
      have : j ≠ i := fun e' => hn (e' ▸ e)
      omega
    · rw [if_neg e, h i (by omega) e]
theorem col_zeros {L : List Txt} {i : Nat} (hi : i < L.length) (m j : Nat) : col (L.set i (List.replicate m 0)) j i = 0 := by
  rw [col_at hi]
  simp only [List.getD_eq_getElem?_getD]
  by_cases h : j < m
  · simp [h]
  · rw [List.getElem?_eq_none (by simp; omega)]; rfl
theorem get_out {L : List Txt} {i c : Nat} (h : c ≠ i) (x : Txt) : (L.set i x).getD c [] = L.getD c [] := by
  simp [List.getD, List.getElem?_set, Ne.symm h]
theorem parP_all {L : List Txt} {m : Nat} (h : AllLen L m) (h3 : 3 ≤ L.length) : AllLen (rparP L) m := h.set (sumT_all h (by omega) (by omega)) _
theorem parQ_all {L : List Txt} {m : Nat} (h : AllLen L m) (h3 : 3 ≤ L.length) : AllLen (rparQ L) m := h.set (qT_all h (by omega) (by omega)) _
theorem byPL_all {L : List Txt} {m i : Nat} (h : AllLen L m) (h3 : 3 ≤ L.length) (hi : i < L.length) : AllLen (byPL L i) m := h.set (by rw [xorT_len, h i hi, synP_all h h3]; omega) _
theorem byQL_all {L : List Txt} {m i : Nat} (h : AllLen L m) (h3 : 3 ≤ L.length) (hi : i < L.length) : AllLen (byQL L i) m := h.set (by rw [xorT_len, timesL_len, h i hi, synQ_all h h3]; omega) _
theorem bothL_all {L : List Txt} {m i k : Nat} (h : AllLen L m) (h3 : 3 ≤ L.length) : AllLen (bothL L i k) m := by
  have e : (bothK L i k).length = m := by unfold bothK; rw [timesL_len, xorT_len, timesL_len, synP_all h h3, synQ_all h h3]; omega
  exact (h.set e _).set (by rw [xorT_len, e, synP_all h h3]; omega) _
theorem kindF_data {n : Nat} {x : Int} (h : x < n) : kindF n x = 1 := if_pos h
theorem kindF_p {n : Nat} : kindF n (n : Int) = 2 := by unfold kindF; rw [if_neg (by omega), if_pos rfl]
theorem kindF_q {n : Nat} : kindF n ((n + 1 : Nat) : Int) = 3 := by unfold kindF; rw [if_neg (by omega), if_neg (by omega)]
theorem fill_one {R : List Txt} {m i : Nat} (h4 : 4 ≤ R.length) (h10 : R.length ≤ 10) (hi : i < R.length) (hm : ∀ j, j < R.length → (j : Int) ∉ [(i : Int)] → (R.getD j []).length = m) : FillR R m [(i : Int)] (fillS R [(i : Int)]) := by
  have hz : lastLen R [(i : Int)] R.length = m := lastLen_eq hm _ (Nat.le_refl _) (by
    by_cases e : i = 0
    · exact ⟨1, by omega, by simp; omega⟩
    · exact ⟨0, by omega, by simp; omega⟩)
  unfold fillS
  rw [hz]
  have hZ : zerL R [(i : Int)] m [(i : Int)].length = R.set i (List.replicate m 0) := rfl
  rw [hZ]
  generalize hZZ : R.set i (List.replicate m 0) = Z
  have hl : Z.length = R.length := by rw [← hZZ]; simp
  have hZm : AllLen Z m := fun j hj => by
    rw [hl] at hj
    rw [← hZZ, getD_set _ _ _ _ hi]
    split
    · simp
    · exact hm j hj (by simp; omega)
  have hZo : ∀ c, c ≠ i → Z.getD c [] = R.getD c [] := fun c hc => by rw [← hZZ]; exact get_out hc _
  have k1 : kindA (R.length - 2) [(i : Int)] 1 [(i : Int)].length = 0 := by unfold kindA; rw [if_neg (by simp)]
  have k0 : kindA (R.length - 2) [(i : Int)] 0 [(i : Int)].length = kindF (R.length - 2) (i : Int) := by unfold kindA; rw [if_pos (by simp)]; rfl
  rw [k0, k1]
  show FillR R m _ (fillK _ 0 Z i 0)
  rcases Nat.lt_trichotomy i (R.length - 2) with h | h | h
  · rw [kindF_data (by omega)]
    show FillR R m _ (byPL Z i)
    refine ⟨by rw [byPL_len, hl], byPL_all hZm (by omega) (by omega), fun c hc => ?_, fun j => ⟨fun h2 => absurd h2 (by simp), fun i' e => ?_⟩⟩
    · have hci : c ≠ i := fun e => hc (by simp [e])
      unfold byPL
      rw [get_out hci, hZo c hci]
    · obtain rfl : i = i' := by have := (List.cons.inj e).1; omega
      have := byPL_P (L := Z) (i := i) (by omega) j
      rw [byPL_len, hl] at this
      exact ⟨fun _ => this, fun e => absurd e (by omega)⟩
  · have : kindF (R.length - 2) (i : Int) = 2 := by rw [h]; exact kindF_p
    rw [this]
    show FillR R m _ (rparP Z)
    refine ⟨by rw [parP_len, hl], parP_all hZm (by omega), fun c hc => ?_, fun j => ⟨fun h2 => absurd h2 (by simp), fun i' e => ?_⟩⟩
    · have hci : c ≠ i := fun e => hc (by simp [e])
      unfold rparP
      rw [get_out (by omega), hZo c hci]
    · obtain rfl : i = i' := by have := (List.cons.inj e).1; omega
      have := parP_P (L := Z) (by omega) j
      rw [parP_len, hl] at this
      exact ⟨fun _ => this, fun e => absurd e (by omega)⟩
  · have : kindF (R.length - 2) (i : Int) = 3 := by rw [show i = R.length - 2 + 1 by omega]; exact kindF_q
    rw [this]
    show FillR R m _ (rparQ Z)
    refine ⟨by rw [parQ_len, hl], parQ_all hZm (by omega), fun c hc => ?_, fun j => ⟨fun h2 => absurd h2 (by simp), fun i' e => ?_⟩⟩
    · have hci : c ≠ i := fun e => hc (by simp [e])
      unfold rparQ
      rw [get_out (by omega), hZo c hci]
    · obtain rfl : i = i' := by have := (List.cons.inj e).1; omega
      have := parQ_Q (L := Z) (by omega) j
      rw [parQ_len, hl] at this
      exact ⟨fun e => absurd e (by omega), fun _ => this⟩
theorem fill_two {R : List Txt} {m i k : Nat} (h4 : 4 ≤ R.length) (h10 : R.length ≤ 10) (hik : i < k) (hk : k < R.length) (hm : ∀ j, j < R.length → (j : Int) ∉ [(i : Int), (k : Int)] → (R.getD j []).length = m) : FillR R m [(i : Int), (k : Int)] (fillS R [(i : Int), (k : Int)]) := by
  have hz : lastLen R [(i : Int), (k : Int)] R.length = m := lastLen_eq hm _ (Nat.le_refl _) (by
    by_cases e : i = 0
    · by_cases e2 : k = 1
      · exact ⟨2, by omega, by simp; omega⟩
      · exact ⟨1, by omega, by simp; omega⟩
    · exact ⟨0, by omega, by simp; omega⟩)
  unfold fillS
  rw [hz]
  have hZ : zerL R [(i : Int), (k : Int)] m [(i : Int), (k : Int)].length = (R.set i (List.replicate m 0)).set k (List.replicate m 0) := rfl
  rw [hZ]
  generalize hZZ : (R.set i (List.replicate m 0)).set k (List.replicate m 0) = Z
  have hl : Z.length = R.length := by rw [← hZZ]; simp
  have hZm : AllLen Z m := fun j hj => by
    rw [hl] at hj
    rw [← hZZ, getD_set _ _ _ _ (by simp; omega)]
    split
    · simp
    · rw [getD_set _ _ _ _ (by omega)]
      split
      · simp
      · exact hm j hj (by simp; omega)
  have hZo : ∀ c, c ≠ i → c ≠ k → Z.getD c [] = R.getD c [] := fun c hc hc2 => by rw [← hZZ, get_out hc2, get_out hc]
  have hZk : ∀ j, col Z j k = 0 := fun j => by rw [← hZZ]; exact col_zeros (by simp; omega) m j
  have hZi : ∀ j, col Z j i = 0 := fun j => by
    rw [← hZZ, col_out (by simp; omega) (by omega)]
    exact col_zeros (by omega) m j
  have k1 : kindA (R.length - 2) [(i : Int), (k : Int)] 1 [(i : Int), (k : Int)].length = kindF (R.length - 2) (k : Int) := by unfold kindA; rw [if_pos (by simp)]; rfl
  have k0 : kindA (R.length - 2) [(i : Int), (k : Int)] 0 [(i : Int), (k : Int)].length = kindF (R.length - 2) (i : Int) := by unfold kindA; rw [if_pos (by simp)]; rfl
  rw [k0, k1]
  show FillR R m _ (fillK _ _ Z i k)
  have fin : ∀ F : List Txt, F.length = R.length → AllLen F m → (∀ c, c ≠ i → c ≠ k → F.getD c [] = Z.getD c []) → PAll F → QAll F → FillR R m [(i : Int), (k : Int)] F := fun F h1 h2 h3 h5 h6 => by
    refine ⟨h1, h2, fun c hc => ?_, fun j => ?_⟩
    · have hci : c ≠ i ∧ c ≠ k := by simp at hc; omega
      rw [h3 c hci.1 hci.2, hZo c hci.1 hci.2]
    · have a := h5 j
      have b := h6 j
      rw [h1] at a b
      exact Filled.good a b _
  rcases Nat.lt_trichotomy k (R.length - 2) with h | h | h
  · rw [kindF_data (show (i : Int) < ((R.length - 2 : Nat) : Int) by omega), kindF_data (show (k : Int) < ((R.length - 2 : Nat) : Int) by omega)]
    show FillR R m _ (bothL Z i k)
    obtain ⟨a, b⟩ := bothL_PQ (L := Z) hik (by omega) (by omega) hZi hZk
    refine fin _ (by rw [bothL_len, hl]) (bothL_all hZm (by omega)) (fun c hc hc2 => ?_) a b
    unfold bothL
    rw [get_out hc, get_out hc2]
  · have e2 : kindF (R.length - 2) (k : Int) = 2 := by rw [h]; exact kindF_p
    rw [kindF_data (show (i : Int) < ((R.length - 2 : Nat) : Int) by omega), e2]
    show FillR R m _ (rparP (byQL Z i))
    have hbl : (byQL Z i).length = R.length := by rw [byQL_len, hl]
    refine fin _ (by rw [parP_len, hbl]) (parP_all (byQL_all hZm (by omega) (by omega)) (by omega)) (fun c hc hc2 => ?_) (parP_P (by omega)) (parP_Q (by omega) (byQL_Q (by omega) (by omega)))
    unfold rparP
    rw [get_out (by omega)]
    unfold byQL
    rw [get_out hc]
  · have e2 : kindF (R.length - 2) (k : Int) = 3 := by rw [show k = R.length - 2 + 1 by omega]; exact kindF_q
    rw [e2]
    by_cases hi : i = R.length - 2
    · have e1 : kindF (R.length - 2) (i : Int) = 2 := by rw [hi]; exact kindF_p
      rw [e1]
      show FillR R m _ (rparQ (rparP Z))
      have hbl : (rparP Z).length = R.length := by rw [parP_len, hl]
      refine fin _ (by rw [parQ_len, hbl]) (parQ_all (parP_all hZm (by omega)) (by omega)) (fun c hc hc2 => ?_) (parQ_P (by omega) (parP_P (by omega))) (parQ_Q (by omega))
      unfold rparQ
      rw [get_out (by omega)]
      unfold rparP
      rw [get_out (by omega)]
    · rw [kindF_data (show (i : Int) < ((R.length - 2 : Nat) : Int) by omega)]
      show FillR R m _ (rparQ (byPL Z i))
      have hbl : (byPL Z i).length = R.length := by rw [byPL_len, hl]
      refine fin _ (by rw [parQ_len, hbl]) (parQ_all (byPL_all hZm (by omega) (by omega)) (by omega)) (fun c hc hc2 => ?_) (parQ_P (by omega) (byPL_P (by omega))) (parQ_Q (by omega))
      unfold rparQ
      rw [get_out (by omega)]
      unfold byPL
      rw [get_out hc]
/-- what Fill makes of a row of which at most two columns are lost -/
theorem fill_col {R : List Txt} {lost : List Int} {m : Nat} (hO : OkM R lost) (h2 : lost.length ≤ 2) (hm : ∀ j, j < R.length → (j : Int) ∉ lost → (R.getD j []).length = m) : FillR R m lost (fillF R lost) := by
  have h4 := hO.n4
  have h10 := hO.n10
  match lost, h2, hO, hm with
  | [], _, _, hm =>
    rw [fill_none]
    exact ⟨rfl, fun j hj => hm j hj (by simp), fun c _ => rfl, fun j => ⟨fun h => absurd h (by simp), fun i h => absurd h (by simp)⟩⟩
  | [x], _, hO, hm =>
    obtain ⟨h0, h1⟩ := hO.rng x (by simp)
    obtain ⟨i, rfl⟩ : ∃ i : Nat, x = (i : Int) := ⟨x.toNat, by omega⟩
    unfold fillF
    have : srt [(i : Int)] = [(i : Int)] := by
      have hl := srt_len [(i : Int)]
      match hq : srt [(i : Int)], hl with
      | [y], _ =>
        have : y ∈ srt [(i : Int)] := by rw [hq]; simp
        rw [srt_mem] at this
        simpa using this
    rw [this]
    exact fill_one h4 h10 (by omega) hm
  | [x, y], _, hO, hm =>
    obtain ⟨h0, h1⟩ := hO.rng x (by simp)
    obtain ⟨h2, h3⟩ := hO.rng y (by simp)
    obtain ⟨i, rfl⟩ : ∃ i : Nat, x = (i : Int) := ⟨x.toNat, by omega⟩
    obtain ⟨k, rfl⟩ : ∃ k : Nat, y = (k : Int) := ⟨y.toNat, by omega⟩
    have hik : i ≠ k := fun e => by have := hO.nodup; simp [e] at this
    unfold fillF
    rcases Nat.lt_or_gt_of_ne hik with hlt | hgt
    · rw [(srt_two (a := (i : Int)) (b := (k : Int)) (by omega)).1]
      exact fill_two h4 h10 hlt (by omega) hm
    · rw [(srt_two (a := (k : Int)) (b := (i : Int)) (by omega)).2]
      have hF := fill_two (R := R) (m := m) h4 h10 hgt (by omega) fun j hj hn => hm j hj (by simp at hn ⊢; omega)
      exact ⟨hF.len, hF.all, fun c hc => hF.out c (by simp at hc ⊢; omega), fun j => ⟨fun _ => (hF.fil j).two rfl, fun i' e => absurd e (by simp)⟩⟩
/-- a row of which the lost columns are as they are to be is what is filled -/
theorem fill_back {R B : List Txt} {lost : List Int} {m : Nat} (hO : OkM B lost) (h2 : lost.length ≤ 2) (hl : B.length = R.length) (hm : AllLen R m) (ho : ∀ c : Nat, c < R.length → (c : Int) ∉ lost → B.getD c [] = R.getD c []) (hF : ∀ j, Filled (R.length - 2) lost (col R j)) : fillF B lost = R := by
  have hf := fill_col hO h2 (m := m) fun j hj hn => by rw [ho j (by omega) hn]; exact hm j (by omega)
  have h4 := hO.n4
  have h10 := hO.n10
  refine row_ext (by rw [hf.len, hl]) hf.all hm fun j hj c hc => ?_
  have hfj := hf.fil j
  rw [hl] at hfj
  refine filled_unique (n := R.length - 2) (by omega) h2 hO.nodup (fun x hx => by have := hO.rng x hx; omega) hfj (hF j) (fun c hc hn => ?_) c (by have := hf.len; omega)
  unfold col
  rw [hf.out c hn, ho c (by omega) hn]
end Go.Proofs.YtedbbdeeofdepaaGreat
end
section
/-! good rows, in plain words. -/
namespace Go.Proofs.YtedbbdeeofdepaaGreat
open Go.Sh Go.RowKit
set_option linter.unusedVariables false
set_option linter.unusedSimpArgs false
set_option maxRecDepth 20000
set_option maxHeartbeats 2000000
/-- a good row of columns of m bytes -/
structure GoodL (L : List Txt) (m : Nat) : Prop where
  n4 : 4 ≤ L.length
  n10 : L.length ≤ 10
  all : AllLen L m
  rel : ∀ j, j < m → PRel (col L j) (L.length - 2) ∧ QRel (col L j) (L.length - 2)
theorem GoodL.ok {L : List Txt} {m : Nat} (h : GoodL L m) (hm : m ≤ 4096) : OkM L [] := ⟨h.n4, h.n10, by simp, by simp, m, hm, fun j hj _ => h.all j hj⟩
theorem GoodL.filled {L : List Txt} {m : Nat} (h : GoodL L m) (lost : List Int) (j : Nat) : Filled (L.length - 2) lost (col L j) := by
  by_cases hj : j < m
  · exact Filled.good (h.rel j hj).1 (h.rel j hj).2 _
  · have hz : ∀ c, col L j c = 0 := fun c => by
      unfold col
      by_cases hc : c < L.length
      · rw [List.getD_eq_getElem?_getD, List.getElem?_eq_none (by rw [h.all c hc]; omega)]; rfl
      · rw [List.getD_eq_getElem?_getD (l := L), List.getElem?_eq_none (by omega)]; rfl
    refine Filled.good ?_ ?_ _
    · unfold PRel
      rw [hz, sx_zero fun c _ => hz c]
    · unfold QRel
      rw [hz, sx_zero fun c _ => wq_zero (hz c)]
end Go.Proofs.YtedbbdeeofdepaaGreat
end
section
/-! The reference's gf and syndrome. -/
namespace Go.Proofs.YtedbbdeeofdepaaGreat
open Go.Sh Go.RowKit
set_option linter.unusedVariables false
set_option linter.unusedSimpArgs false
set_option maxRecDepth 20000
set_option maxHeartbeats 2000000
def bitF (b : UInt8) (i : Nat) : Bool := bits2 .and .i64 (Int.fdiv (b.toNat : Int) (2 ^ i)) 1 == 1
def mAcc (a b : UInt8) : Nat → UInt8
  | 0 => 0
  | i + 1 => if bitF b i then mAcc a b i ^^^ xp i a else mAcc a b i
def bAcc (b : UInt8) : Nat → UInt8
  | 0 => 0
  | i + 1 => if bitF b i then bAcc b i ^^^ ex i else bAcc b i
theorem bAcc_eight (b : UInt8) : bAcc b 8 = b := by
  have h : ∀ n : Fin 256, bAcc (UInt8.ofNat n.1) 8 = UInt8.ofNat n.1 := by decide +kernel
  have := h ⟨b.toNat, b.toNat_lt⟩
  simpa using this
theorem mAcc_eq (a b : UInt8) : ∀ i, mulG a (bAcc b i) = mAcc a b i
  | 0 => mulG_zero a
  | i + 1 => by
    simp only [bAcc, mAcc]
    by_cases h : bitF b i = true
    · rw [if_pos h, if_pos h, mulG_xor', mulG_ex, mAcc_eq a b i]
    · rw [if_neg h, if_neg h, mAcc_eq a b i]
theorem i64_xor (x y : UInt8) : bits2 .xor .i64 (x.toNat : Int) (y.toNat : Int) = ((x ^^^ y).toNat : Int) := by
  have hx := x.toNat_lt; have hy := y.toNat_lt
  unfold bits2
  simp only [IntKind.bits]
  rw [show BitVec.ofInt 64 ((x.toNat : Nat) : Int) = BitVec.ofNat 64 x.toNat by simp, show BitVec.ofInt 64 ((y.toNat : Nat) : Int) = BitVec.ofNat 64 y.toNat by simp]
  have : ((BitVec.ofNat 64 x.toNat ^^^ BitVec.ofNat 64 y.toNat).toNat) = (x ^^^ y).toNat := by
    rw [BitVec.toNat_xor, BitVec.toNat_ofNat, BitVec.toNat_ofNat, UInt8.toNat_xor, Nat.mod_eq_of_lt (by omega), Nat.mod_eq_of_lt (by omega)]
  have h2 := (x ^^^ y).toNat_lt
  show IntKind.i64.wrap (((BitVec.ofNat 64 x.toNat ^^^ BitVec.ofNat 64 y.toNat).toNat : Nat) : Int) = _
  rw [this, wrap64 _ (by omega) (by omega)]
theorem mulR_spec (a b : UInt8) (w : World) : Ret Tryz.prog 70 #[.int .u8 (a.toNat : Int), .int .u8 (b.toNat : Int)] w (.int .u8 ((mulG a b).toNat : Int)) := by
  refine ret_of (revetmentref01_Mul_calls ?_)
  unfold revetmentref01_Mul
  have ha := a.toNat_lt
  have hb := b.toNat_lt
  rw [wrap64 _ (by omega) (by omega), wrap64 _ (by omega) (by omega)]
  have step : ∀ y : UInt8, (256 ≤ IntKind.i64.wrap ((y.toNat : Int) * 2 ^ 1) → bits2 .xor .i64 (IntKind.i64.wrap ((y.toNat : Int) * 2 ^ 1)) 285 = ((xt y).toNat : Int)) ∧ (¬ 256 ≤ IntKind.i64.wrap ((y.toNat : Int) * 2 ^ 1) → IntKind.i64.wrap ((y.toNat : Int) * 2 ^ 1) = ((xt y).toNat : Int)) := by
    have h : ∀ n : Fin 256, (256 ≤ IntKind.i64.wrap (((UInt8.ofNat n.1).toNat : Int) * 2 ^ 1) → bits2 .xor .i64 (IntKind.i64.wrap (((UInt8.ofNat n.1).toNat : Int) * 2 ^ 1)) 285 = ((xt (UInt8.ofNat n.1)).toNat : Int)) ∧ (¬ 256 ≤ IntKind.i64.wrap (((UInt8.ofNat n.1).toNat : Int) * 2 ^ 1) → IntKind.i64.wrap (((UInt8.ofNat n.1).toNat : Int) * 2 ^ 1) = ((xt (UInt8.ofNat n.1)).toNat : Int)) := by decide +kernel
    intro y
    have := h ⟨y.toNat, y.toNat_lt⟩
    simpa using this
  refine ⟨fun vs w' => w' = w ∧ ∃ i : Nat, vs = [.int .i64 ((mAcc a b i).toNat : Int), .int .i64 ((xp i a).toNat : Int), .int .i64 (i : Int)] ∧ i ≤ 8, fun vs _ => match vs with | [_, _, .int _ i] => (8 - i).toNat | _ => 0, ⟨rfl, 0, rfl, by omega⟩, ?_⟩
  rintro vs w1 ⟨rfl, i, rfl, hi⟩
  refine ⟨_, _, _, rfl, dec_t fun hlt => ?_, dec_f fun hge => ?_⟩
  · have hlt : i < 8 := by omega
    refine Join.intro fun J hJ => ?_
    have fin : J [.int .i64 ((mAcc a b (i + 1)).toNat : Int)] w1 := by
      refine hJ _ _ ⟨_, rfl, ?_⟩
      have e1 : IntKind.i64.wrap ((i : Int) + 1) = ((i + 1 : Nat) : Int) := by rw [wrap64 _ (by omega) (by omega)]; rfl
      rw [e1]
      have dn : ((8 : Int) - ((i + 1 : Nat) : Int)).toNat < ((8 : Int) - (i : Int)).toNat := by omega
      refine ⟨dec_t fun h => ⟨⟨rfl, i + 1, ?_, by omega⟩, dn⟩, dec_f fun h => ⟨⟨rfl, i + 1, ?_, by omega⟩, dn⟩⟩
      · rw [(step (xp i a)).1 h]; rfl
      · rw [(step (xp i a)).2 (by omega)]; rfl
    have em : min ((i : Int)).toNat 64 = i := by omega
    rw [em]
    refine ⟨by omega, fun h => ?_, fun h => ?_⟩
    · have hb : bitF b i = true := h
      rw [i64_xor]
      have : mAcc a b (i + 1) = mAcc a b i ^^^ xp i a := if_pos hb
      rw [← this]; exact fin
    · have hb : bitF b i = false := h
      have : mAcc a b (i + 1) = mAcc a b i := if_neg (by rw [hb]; simp)
      rw [← this]; exact fin
  · have hie : i = 8 := by omega
    subst hie
    refine ⟨?_, Ext.refl _⟩
    have h2 := (mAcc a b 8).toNat_lt
    rw [wrap8, ← mAcc_eq, bAcc_eight]
    have h3 := (mulG a b).toNat_lt
    congr 1
    omega
theorem two_ex : (2 : UInt8) = ex 1 := by decide
theorem powR_spec (n : Int) (w : World) : Ret Tryz.prog 71 #[.int .u8 2, .int .i64 n] w (.int .u8 ((exI n).toNat : Int)) := by
  refine ret_of (revetmentref01_Pow_calls ?_)
  unfold revetmentref01_Pow
  refine ⟨beq_t fun h0 => ⟨by rw [h0]; rfl, Ext.refl w⟩, beq_f fun h0 => no rfl (Join.intro fun J hJ => ?_)⟩
  have main : J [.int .i64 (((n % 255).toNat : Nat) : Int)] w := by
    refine hJ _ _ ⟨_, rfl, ?_⟩
    unfold exI
    have h255 : (n % 255).toNat < 255 := by omega
    generalize (n % 255).toNat = k at h255
    refine ⟨fun vs w' => Ext w w' ∧ ∃ i : Nat, vs = [.int .u8 ((ex i).toNat : Int), .int .i64 (i : Int)] ∧ i ≤ k, fun vs _ => match vs with | [_, .int _ i] => (k - i).toNat | _ => 0, ⟨Ext.refl w, 0, rfl, by omega⟩, ?_⟩
    rintro vs w1 ⟨hx, i, rfl, hi⟩
    refine ⟨_, _, rfl, dec_t fun hlt => ?_, dec_f fun hge => ?_⟩
    · refine (mulR_spec (ex i) 2 w1).mono fun e w2 ⟨he, hx2⟩ => ⟨_, he, ⟨hx.trans hx2, i + 1, ?_, by omega⟩, ?_⟩
      · rw [wrap64 _ (by omega) (by omega), two_ex, mulG_ex]; rfl
      · show ((k : Int) - IntKind.i64.wrap ((i : Int) + 1)).toNat < ((k : Int) - (i : Int)).toNat
        rw [wrap64 _ (by omega) (by omega)]; omega
    · have hie : i = k := by omega
      subst hie
      exact ⟨rfl, hx⟩
  have hm : n % 255 = if Int.tmod n 255 < 0 then Int.tmod n 255 + 255 else Int.tmod n 255 := by
    rcases Int.lt_or_le n 0 with h | h
    · obtain ⟨m, rfl⟩ : ∃ m : Int, n = -m := ⟨-n, by omega⟩
      rw [Int.neg_tmod, Int.tmod_eq_emod_of_nonneg (a := m) (by omega)]
      split <;> omega
    · rw [Int.tmod_eq_emod_of_nonneg h, if_neg (by omega)]
  have hlo := tmod255_rng n
  refine ⟨dec_t fun h => ?_, dec_f fun h => ?_⟩
  · rw [if_pos h] at hm
    rw [wrap64 _ (by omega) (by omega)]
    have : Int.tmod n 255 + 255 = (((n % 255).toNat : Nat) : Int) := by omega
    rw [this]; exact main
  · rw [if_neg h] at hm
    have : Int.tmod n 255 = (((n % 255).toNat : Nat) : Int) := by omega
    rw [this]; exact main
theorem expR_spec (n : Int) (w : World) : Ret Tryz.prog 37 #[.int .i64 n] w (.int .u8 ((exI n).toNat : Int)) := by
  refine ret_of (revetmentref01_Exp_calls ?_)
  unfold revetmentref01_Exp
  exact (powR_spec n w).mono fun e w1 ⟨he, hx⟩ => ⟨_, he, rfl, hx⟩
theorem bvals_next {X : List UInt8} {i : Nat} {x : UInt8} (h : X[i]? = some x) : bvals (X.take i) ++ [.int .u8 (x.toNat : Int)] = bvals (X.take (i + 1)) := by
  rw [List.take_add_one, h, ← bvals_append]; rfl
end Go.Proofs.YtedbbdeeofdepaaGreat
end
section
/-! law06: heavy, Same, square, shown. -/
namespace Go.Proofs.YtedbbdeeofdepaaGreat
open Go.Sh Go.RowKit
set_option linter.unusedVariables false
set_option linter.unusedSimpArgs false
set_option maxRecDepth 20000
set_option maxHeartbeats 2000000
end Go.Proofs.YtedbbdeeofdepaaGreat
end
section
/-! law06: RefillNone. -/
namespace Go.Proofs.YtedbbdeeofdepaaGreat
open Go.Sh Go.RowKit
set_option linter.unusedVariables false
set_option linter.unusedSimpArgs false
set_option maxRecDepth 20000
set_option maxHeartbeats 2000000
theorem AllLen.take {L : List Txt} {m : Nat} (h : AllLen L m) (n : Nat) : AllLen (L.take n) m := fun j hj => by
  rw [List.length_take] at hj
  rw [take_get _ _ _ (by omega)]
  exact h j (by omega)
end Go.Proofs.YtedbbdeeofdepaaGreat
end
section
/-! law06: RefillGood, RefillTwo. -/
namespace Go.Proofs.YtedbbdeeofdepaaGreat
open Go.Sh Go.RowKit
set_option linter.unusedVariables false
set_option linter.unusedSimpArgs false
set_option maxRecDepth 20000
set_option maxHeartbeats 2000000
end Go.Proofs.YtedbbdeeofdepaaGreat
end
section
/-! row: what is found of a good row, in plain words. -/
namespace Go.Proofs.YtedbbdeeofdepaaGreat
open Go.Sh Go.RowKit
set_option linter.unusedVariables false
set_option linter.unusedSimpArgs false
set_option maxRecDepth 20000
set_option maxHeartbeats 1000000
/-- what is read of a column's sector -/
def secC (ds : List Od) (bu : List Int) (row sec : Int) (c : Nat) : ByteArray × Int := if bu.getD c 0 ≤ row then (noB, 41) else match thereO ds c with
  | some x => x.2.read sec
  | none => (noB, 41)
theorem secR_col (s : RwS) (ds : List Od) (bu : List Int) (row off role : Int) : secR s ds bu row off role = secC ds bu row (sectorG s.c s.k s.r row off) (colR s row role).toNat := by
  unfold secR secC builtO
  by_cases h : bu.getD (colR s row role).toNat 0 ≤ row
  · rw [if_pos h, if_pos h]
  · rw [if_neg h, if_neg h]; rfl
/-- a row of which some columns are gone -/
structure RowSt (s : RwS) (ds : List Od) (bu : List Int) (N : Nat) (row sec : Int) (V : Nat → Txt) (G : Nat → Bool) : Prop where
  ok : OkG s.c s.k s.r
  len : (ds.length : Int) = s.c
  bl : (bu.length : Int) = s.c
  size : (N : Int) = 4 + s.r * s.k
  al : ∀ i, i < ds.length → ds[i]? = some none ∨ ∃ p a, ds[i]? = some (some (p, a)) ∧ a.power = none ∧ a.safe.length = N ∧ a.Few 1000
  rd : ∀ i, i < ds.length → secC ds bu row sec i = if G i then (noB, 41) else (strB (V i), 0)
theorem thereO_set {ds : List Od} {i j : Nat} {y : Od} (hj : j < ds.length) : thereO (ds.set j y) i = if i = j then (match y with | some x => if x.2.dead then none else some x | none => none) else thereO ds i := by
  unfold thereO
  by_cases e : i = j
  · subst e
    rw [if_pos rfl, List.getD_eq_getElem?_getD, List.getElem?_set_self hj]; rfl
  · rw [if_neg e, List.getD_eq_getElem?_getD, List.getElem?_set_ne (Ne.symm e), List.getD_eq_getElem?_getD]
section
variable {s : RwS} {ds : List Od} {bu : List Int} {N : Nat} {row sec : Int} {V : Nat → Txt} {G : Nat → Bool}
theorem RowSt.may (h : RowSt s ds bu N row sec V G) : RMay s ds bu := by
  refine ⟨h.ok, h.len, h.bl, fun y hy x hx => ?_⟩
  obtain ⟨i, hi, rfl⟩ := List.getElem_of_mem hy
  have := h.al i hi
  rw [List.getElem?_eq_getElem hi, hx] at this
  rcases this with h1 | ⟨p, a, h1, h2, h3, h4⟩
  · cases h1
  · cases h1
    unfold needG
    rw [if_pos h.ok, h3, h.size]
    exact Int.le_refl _
theorem RowSt.few (h : RowSt s ds bu N row sec V G) : FewL ds 1000000 := fun q a hm => by
  obtain ⟨i, hi, he⟩ := List.getElem_of_mem hm
  have := h.al i hi
  rw [List.getElem?_eq_getElem hi, he] at this
  rcases this with h1 | ⟨p, b, h1, h2, h3, h4⟩
  · cases h1
  · cases h1
    exact h4.mono (by omega)
/-- a drive is put in a column's place that gives nothing -/
theorem RowSt.set (h : RowSt s ds bu N row sec V G) {i : Nat} (hi : i < ds.length) {y : Od} (hy : y = none ∨ ∃ p a, y = some (p, a) ∧ a.power = none ∧ a.safe.length = N ∧ a.Few 1000 ∧ (a.dead = true ∨ a.read sec = (noB, 41))) :
    RowSt s (ds.set i y) bu N row sec V (fun j => j == i || G j) := by
  refine ⟨h.ok, by rw [List.length_set]; exact h.len, h.bl, h.size, fun j hj => ?_, fun j hj => ?_⟩
  · rw [List.length_set] at hj
    by_cases e : i = j
    · subst e
      rw [List.getElem?_set_self hi]
      rcases hy with rfl | ⟨p, a, rfl, h1, h2, h3, h4⟩
      · exact .inl rfl
      · exact .inr ⟨p, a, rfl, h1, h2, h3⟩
    · rw [List.getElem?_set_ne e]; exact h.al j hj
  · rw [List.length_set] at hj
    have hrd := h.rd j hj
    unfold secC at hrd ⊢
    rw [thereO_set hi]
    by_cases e : j = i
    · rw [if_pos e, e]
      simp only [beq_self_eq_true, Bool.true_or, if_true]
      by_cases hb : bu.getD i 0 ≤ row
      · rw [if_pos hb]
      · rw [if_neg hb]
        rcases hy with rfl | ⟨p, a, rfl, h1, h2, h3, h4⟩
        · rfl
        · show (match (if a.dead = true then none else some (p, a)) with | some x => x.2.read sec | none => (noB, 41)) = _
          by_cases hd : a.dead = true
          · rw [if_pos hd]
          · rw [if_neg hd]
            rcases h4 with h4 | h4
            · exact absurd h4 hd
            · exact h4
    · rw [if_neg e]
      have : (j == i) = false := beq_eq_false_iff_ne.2 e
      rw [this, Bool.false_or]
      exact hrd
/-- where a column is nothing already -/
theorem RowSt.gone (h : RowSt s ds bu N row sec V G) {i : Nat} (hk : ds[i]? = some none) : RowSt s ds bu N row sec V (fun j => j == i || G j) := by
  obtain ⟨hi, _⟩ := List.getElem?_eq_some_iff.1 hk
  have := h.set hi (y := none) (.inl rfl)
  rwa [set_get_same hk] at this
/-- of a row what is read -/
theorem RowSt.read (h : RowSt s ds bu N row sec V G) {off : Int} (hr : 0 ≤ row ∧ row < s.r) (ho : 0 ≤ off ∧ off < s.k) (he : sec = sectorG s.c s.k s.r row off) {L : List Txt} {c : Nat} (hc : s.c = (c : Int)) (hL : L.length = c) (hV : ∀ i : Nat, i < c → L.getD i [] = V (colR s row i).toNat) :
    atE s ds bu row off = 0 ∧ (∀ i : Nat, i < c → secR s ds bu row off i = if G (colR s row i).toNat then (noB, 41) else (strB (L.getD i []), 0)) ∧
      readR s ds bu row off = .ok ((List.range c).map fun i : Nat => if G (colR s row i).toNat then [] else L.getD i [], misL (fun i => G (colR s row i).toNat) c) := by
  have h0 : atE s ds bu row off = 0 := by unfold atE; rw [if_pos h.may, if_neg (by omega)]
  have hs : ∀ i : Nat, i < c → secR s ds bu row off i = if G (colR s row i).toNat then (noB, 41) else (strB (L.getD i []), 0) := fun i hi => by
    have := (colR_nat h.ok hr (role := i) (by omega)).2
    rw [secR_col, ← he, h.rd _ (by have := h.len; omega), hV i hi]
  refine ⟨h0, hs, ?_⟩
  unfold readR
  rw [if_neg (by omega), if_neg, hc, Int.toNat_natCast]
  · congr 2
    · unfold colX
      refine List.map_congr_left fun i hi => ?_
      show (secR s ds bu row off (i : Int)).1.data.toList = _
      rw [hs i (List.mem_range.1 hi)]
      cases G (colR s row i).toNat <;> rfl
    · unfold colL misL
      congr 1
      refine List.filter_congr fun i hi => ?_
      show ((secR s ds bu row off (i : Int)).2 != 0) = _
      rw [hs i (List.mem_range.1 hi)]
      cases G (colR s row i).toNat <;> rfl
  · intro ha
    obtain ⟨i, hi, hb⟩ := List.any_eq_true.1 ha
    have hi := List.mem_range.1 hi
    rw [hs i (by omega)] at hb
    cases hg : G (colR s row i).toNat <;> rw [hg] at hb <;> cases hb
end
theorem misL_mem {p : Nat → Bool} {n : Nat} {x : Int} : x ∈ misL p n ↔ ∃ i : Nat, x = (i : Int) ∧ i < n ∧ p i = true := by
  unfold misL
  rw [List.mem_map]
  constructor
  · rintro ⟨i, hi, rfl⟩
    obtain ⟨h1, h2⟩ := List.mem_filter.1 hi
    exact ⟨i, rfl, List.mem_range.1 h1, h2⟩
  · rintro ⟨i, rfl, h1, h2⟩
    exact ⟨i, List.mem_filter.2 ⟨List.mem_range.2 h1, h2⟩, rfl⟩
theorem misL_nodup (p : Nat → Bool) (n : Nat) : (misL p n).Nodup := by
  unfold misL
  have h : ((List.range n).filter p).Nodup := List.nodup_range.filter _
  rw [List.Nodup, List.pairwise_map]
  exact h.imp fun {a b} hab e => hab (by omega)
/-- a good row whose lost columns are two at most is filled -/
theorem lost_ok {L : List Txt} (hL : GoodL L 64) (W : Nat → Bool) : OkM ((List.range L.length).map fun i : Nat => if W i then [] else L.getD i []) (misL W L.length) := by
  have hl : ((List.range L.length).map fun i : Nat => if W i then [] else L.getD i []).length = L.length := by simp
  refine ⟨by rw [hl]; exact hL.n4, by rw [hl]; exact hL.n10, fun x hx => ?_, misL_nodup _ _, 64, by omega, fun j hj hn => ?_⟩
  · obtain ⟨i, rfl, h1, _⟩ := misL_mem.1 hx
    rw [hl]; omega
  · rw [hl] at hj
    have hW : W j = false := by
      cases hw : W j with
      | true => exact absurd (misL_mem.2 ⟨j, rfl, hj, hw⟩) hn
      | false => rfl
    rw [List.getD_eq_getElem?_getD, List.getElem?_map, List.getElem?_range hj]
    show (if W j = true then [] else L.getD j []).length = 64
    rw [hW]
    exact hL.all j hj
theorem lost_fill {L : List Txt} (hL : GoodL L 64) (W : Nat → Bool) (h2 : (misL W L.length).length ≤ 2) : fillF ((List.range L.length).map fun i : Nat => if W i then [] else L.getD i []) (misL W L.length) = L := by
  refine fill_back (m := 64) (lost_ok hL W) h2 (by simp) hL.all (fun c hc hn => ?_) fun j => hL.filled _ j
  have hW : W c = false := by
    cases hw : W c with
    | true => exact absurd (misL_mem.2 ⟨c, rfl, hc, hw⟩) hn
    | false => rfl
  rw [List.getD_eq_getElem?_getD, List.getElem?_map, List.getElem?_range hc]
  show (if W c = true then [] else L.getD c []) = _
  rw [hW]; rfl
end Go.Proofs.YtedbbdeeofdepaaGreat
end
section
/-! row: RowFound. -/
namespace Go.Proofs.YtedbbdeeofdepaaGreat
open Go.Sh Go.RowKit
set_option linter.unusedVariables false
set_option linter.unusedSimpArgs false
set_option maxRecDepth 20000
set_option maxHeartbeats 2000000
theorem Ow.stRow {h : Kd} {F : List Nat} {w0 w : World} {X Δ : List A} {e : TypeId} {n cap b k : Nat} {xs : List Value} {v : Value} {K : World → Prop} (H : Ow h F w0 w X) (hk : Pick (rowP e 1 (some b) n cap xs) X Δ) (hkl : k < xs.length) (hv : scalar v = true)
    (hK : ∀ w', Ow h F w0 w' (rowP e 1 (some b) n cap (xs.set k v) :: Δ) → K w') : St (Addr.add ⟨b, 0, none⟩ (k * 1)) v w K := by
  obtain ⟨Y, hY, hT⟩ := H
  exact StRow1.t hT (hk.app Y) hkl hv fun w' h' => hK w' ⟨Y, hY, h'⟩
/-- a drive is forgotten -/
theorem Ow.forget {ds : List Od} {F : List Nat} {w0 w : World} {X : List A} (H : Ow (dsK ds) F w0 w X) (k : Nat) : Ow (dsK (ds.set k none)) F w0 w X := by
  by_cases hk : k < ds.length
  · have he : ds[k]? = some ds[k] := List.getElem?_eq_getElem hk
    obtain ⟨Z, h1, h2⟩ := Ow.at he H
    exact h2 (x' := none) (Ow.of_T h1.under)
  · rw [List.set_eq_of_length_le (by omega)]; exact H
theorem ptrsV_none (ds : List Od) (k : Nat) : (ptrsV (blks ds)).set k (.pointer none) = ptrsV (blks (ds.set k none)) := by
  unfold ptrsV blks
  rw [List.map_set, List.map_set]; rfl
theorem intsI_set (l : List Int) (k : Nat) (x : Int) : (intsI l).set k (.int .i64 x) = intsI (l.set k x) := by
  unfold intsI
  rw [List.map_set]
open Classical in
/-- the error of what can't be filled, and what can -/
theorem RowSt.sect {s : RwS} {ds : List Od} {bu : List Int} {N : Nat} {row sec : Int} {V : Nat → Txt} {G : Nat → Bool} (h : RowSt s ds bu N row sec V G) {off : Int} (hr : 0 ≤ row ∧ row < s.r) (ho : 0 ≤ off ∧ off < s.k) (he : sec = sectorG s.c s.k s.r row off) {L : List Txt} {c : Nat} (hc : s.c = (c : Int)) (hL : L.length = c) (hG : GoodL L 64) (hV : ∀ i : Nat, i < c → L.getD i [] = V (colR s row i).toNat) :
    filR s ds bu row off = (if (misL (fun i => G (colR s row i).toNat) c).length ≤ 2 then .ok (L, misL (fun i => G (colR s row i).toNat) c) else .error 60) ∧
    ∀ i : Nat, (i : Int) < s.c - 2 → sectR s ds bu row off i = if G (colR s row i).toNat = true ∧ 2 < (misL (fun i => G (colR s row i).toNat) c).length then (noB, 60) else (strB (L.getD i []), 0) := by
  obtain ⟨h0, hs, hR⟩ := h.read hr ho he hc hL hV
  have hok := lost_ok hG (fun i => G (colR s row i).toNat)
  rw [hL] at hok
  have hfi : filR s ds bu row off = (if (misL (fun i => G (colR s row i).toNat) c).length ≤ 2 then .ok (L, misL (fun i => G (colR s row i).toNat) c) else .error 60) := by
    unfold filR
    rw [hR]
    show (if OkM _ _ then _ else _) = _
    rw [if_pos hok]
    by_cases h2 : (misL (fun i => G (colR s row i).toNat) c).length ≤ 2
    · rw [if_pos h2, if_pos h2]
      have := lost_fill hG (fun i => G (colR s row i).toNat) (by rw [hL]; exact h2)
      rw [hL] at this
      rw [this]
    · rw [if_neg h2, if_neg h2]
  refine ⟨hfi, fun i hi => ?_⟩
  unfold sectR
  rw [if_neg (by omega), if_neg (by omega), hs i (by omega), hfi]
  cases hg : G (colR s row i).toNat with
  | false =>
    simp only [Bool.false_eq_true, if_false, false_and]
    rw [if_pos (by decide)]
  | true =>
    rw [if_pos rfl, if_neg (by decide)]
    by_cases h2 : (misL (fun i => G (colR s row i).toNat) c).length ≤ 2
    · rw [if_pos h2, if_neg (by omega), Int.toNat_natCast]
    · rw [if_neg h2, if_pos ⟨rfl, by omega⟩]
end Go.Proofs.YtedbbdeeofdepaaGreat
end
section
/-! layout: the reference answers alike. -/
namespace Go.Proofs.YtedbbdeeofdepaaGreat
open Go.Sh
set_option linter.unusedVariables false
theorem rcheck_spec (c k r : Int) (w : World) : Ret Tryz.prog 68 #[.agg #[.int .i64 c, .int .i64 k, .int .i64 r]] w (.int .i64 (if OkG c k r then 0 else 1)) := by
  refine ret_of (revetmentref07_Check_calls ?_)
  unfold revetmentref07_Check
  have hS := S.start w
  repeat' (first | (refine Alloc.s (by assumption) ?_; intro _ _ _) | (refine St.s (by assumption) (by repeat (first | exact Upd.head | apply Upd.tail)) (by simp) (by rfl) rfl ?_; intro _ _) | (exact S.ld (by assumption) (by repeat (first | exact List.Mem.head _ | refine List.Mem.tail _ ?_)) (by rfl)) | (refine lex_s (by assumption) ?_; intro _) | (refine Join.intro fun J hJ => ?_) | (refine hJ _ _ ?_) | (refine ⟨_, _, min_run _ _ _ _ _ _, ?_⟩) | (refine ⟨_, _, max_run _ _ _ _ _ _, ?_⟩) | (refine dec_t ?_; intro _) | (refine dec_f ?_; intro _) | (refine not_t ?_) | (refine not_f ?_) | (refine beq_t ?_; intro _) | (refine beq_f ?_; intro _) | (refine bne_t ?_; intro _) | (refine bne_f ?_; intro _) | (with_reducible apply Exists.intro) | (exact rfl) | (exact S.ext (by assumption)) | (show (_ : Int) ≤ _; omega) | (show (_ : Int) < _; omega) | (show (_ : Int) ≠ _; omega) | (with_reducible apply And.intro) | (intro _) | (assumption))
  all_goals
    refine retInt ?_
    first
    | rw [if_neg (by unfold OkG; omega)]
    | rw [if_pos (by unfold OkG; omega)]
theorem rright_spec (c k r row n most : Int) (w : World) : Ret Tryz.prog 102 #[.agg #[.int .i64 c, .int .i64 k, .int .i64 r], .int .i64 row, .int .i64 n, .int .i64 most] w (.bool (decide (InG c k r row n most))) := by
  refine ret_of (revetmentref07_right_calls ?_)
  unfold revetmentref07_right
  have hS := S.start w
  repeat' (first | (refine Alloc.s (by assumption) ?_; intro _ _ _) | (refine St.s (by assumption) (by repeat (first | exact Upd.head | apply Upd.tail)) (by simp) (by rfl) rfl ?_; intro _ _) | (exact S.ld (by assumption) (by repeat (first | exact List.Mem.head _ | refine List.Mem.tail _ ?_)) (by rfl)) | (refine lex_s (by assumption) ?_; intro _) | (refine Ret.useS (by assumption) (rcheck_spec _ _ _ _) ?_; intro _ _) | (refine Join.intro fun J hJ => ?_) | (refine hJ _ _ ?_) | (refine ⟨_, _, min_run _ _ _ _ _ _, ?_⟩) | (refine ⟨_, _, max_run _ _ _ _ _ _, ?_⟩) | (refine dec_t ?_; intro _) | (refine dec_f ?_; intro _) | (refine not_t ?_) | (refine not_f ?_) | (refine beq_t ?_; intro _) | (refine beq_f ?_; intro _) | (refine bne_t ?_; intro _) | (refine bne_f ?_; intro _) | (with_reducible apply Exists.intro) | (exact rfl) | (exact S.ext (by assumption)) | (show (_ : Int) ≤ _; omega) | (show (_ : Int) < _; omega) | (show (_ : Int) ≠ _; omega) | (with_reducible apply And.intro) | (intro _) | (assumption))
  all_goals
    refine retBool ?_
    grind [InG]
theorem rneed_spec (c k r : Int) (w : World) : Ret Tryz.prog 69 #[.agg #[.int .i64 c, .int .i64 k, .int .i64 r]] w (.int .i64 (needG c k r)) := by
  refine ret_of (revetmentref07_Need_calls ?_)
  unfold revetmentref07_Need
  have hS := S.start w
  repeat' (first | (refine Alloc.s (by assumption) ?_; intro _ _ _) | (refine St.s (by assumption) (by repeat (first | exact Upd.head | apply Upd.tail)) (by simp) (by rfl) rfl ?_; intro _ _) | (exact S.ld (by assumption) (by repeat (first | exact List.Mem.head _ | refine List.Mem.tail _ ?_)) (by rfl)) | (refine lex_s (by assumption) ?_; intro _) | (refine Ret.useS (by assumption) (rcheck_spec _ _ _ _) ?_; intro _ _) | (refine Join.intro fun J hJ => ?_) | (refine hJ _ _ ?_) | (refine ⟨_, _, min_run _ _ _ _ _ _, ?_⟩) | (refine ⟨_, _, max_run _ _ _ _ _ _, ?_⟩) | (refine dec_t ?_; intro _) | (refine dec_f ?_; intro _) | (refine not_t ?_) | (refine not_f ?_) | (refine beq_t ?_; intro _) | (refine beq_f ?_; intro _) | (refine bne_t ?_; intro _) | (refine bne_f ?_; intro _) | (with_reducible apply Exists.intro) | (exact rfl) | (exact S.ext (by assumption)) | (show (_ : Int) ≤ _; omega) | (show (_ : Int) < _; omega) | (show (_ : Int) ≠ _; omega) | (with_reducible apply And.intro) | (intro _) | (assumption))
  · have hn : ¬ OkG c k r := by grind
    simp only [needG, if_neg hn]
  · have hn : OkG c k r := by grind
    have h1 := rk_bd hn
    simp only [needG, if_pos hn]
    rw [wrap64 (r * k) (by omega) (by omega), wrap64 _ (by omega) (by omega)]
theorem rparity_spec (c k r row : Int) (w : World) : Ret Tryz.prog 107 #[.agg #[.int .i64 c, .int .i64 k, .int .i64 r], .int .i64 row] w (.tuple #[.int .i64 (parP c k r row), .int .i64 (parQ c k r row)]) := by
  refine ret_of (revetmentref07_Parity_calls ?_)
  unfold revetmentref07_Parity
  have hS := S.start w
  repeat' (first | (refine Alloc.s (by assumption) ?_; intro _ _ _) | (refine St.s (by assumption) (by repeat (first | exact Upd.head | apply Upd.tail)) (by simp) (by rfl) rfl ?_; intro _ _) | (exact S.ld (by assumption) (by repeat (first | exact List.Mem.head _ | refine List.Mem.tail _ ?_)) (by rfl)) | (refine lex_s (by assumption) ?_; intro _) | (refine Ret.useS (by assumption) (rright_spec _ _ _ _ _ _ _) ?_; intro _ _) | (refine Join.intro fun J hJ => ?_) | (refine hJ _ _ ?_) | (refine ⟨_, _, min_run _ _ _ _ _ _, ?_⟩) | (refine ⟨_, _, max_run _ _ _ _ _ _, ?_⟩) | (refine dec_t ?_; intro _) | (refine dec_f ?_; intro _) | (refine not_t ?_) | (refine not_f ?_) | (refine beq_t ?_; intro _) | (refine beq_f ?_; intro _) | (refine bne_t ?_; intro _) | (refine bne_f ?_; intro _) | (with_reducible apply Exists.intro) | (exact rfl) | (exact S.ext (by assumption)) | (show (_ : Int) ≤ _; omega) | (show (_ : Int) < _; omega) | (show (_ : Int) ≠ _; omega) | (with_reducible apply And.intro) | (intro _) | (assumption))
  · have hn : ¬ InG c k r row 0 1 := by assumption
    simp only [parP, parQ, if_neg hn]
  · grind [InG, OkG]
  · grind [InG, OkG]
  · have hn : InG c k r row 0 1 := by assumption
    have hc : 4 ≤ c ∧ c ≤ 10 ∧ 0 ≤ row := by grind [InG, OkG]
    have h1 := firstG_bd c row (by omega)
    have h2 := mod_bd row (c := c) (by omega)
    have h3 := firstG_eq c row (by omega)
    simp only [parP, parQ, if_pos hn]
    rw [tmod_nn (show 0 ≤ row by omega), wrap64 (c - 1) (by omega) (by omega), wrap64 (c - 1 - row % c) (by omega) (by omega), wrap64 _ (by omega) (by omega), tmod_nn (by omega)]
    have e1 : c - 1 - row % c = (firstG c row + c - 1) % c := by rw [mod2 (firstG c row + c - 1) c (by omega) (by omega)]; split at h3 <;> split <;> omega
    have e2 : (c - 1 - row % c + 1) % c = firstG c row := by rw [mod2 (c - 1 - row % c + 1) c (by omega) (by omega)]; split at h3 <;> split <;> omega
    rw [e2, e1]
theorem rcolumn_spec (c k r row i : Int) (w : World) : Ret Tryz.prog 67 #[.agg #[.int .i64 c, .int .i64 k, .int .i64 r], .int .i64 row, .int .i64 i] w (.int .i64 (colG c k r row i)) := by
  refine ret_of (revetmentref07_Column_calls ?_)
  unfold revetmentref07_Column
  have hS := S.start w
  repeat' (first | (refine Alloc.s (by assumption) ?_; intro _ _ _) | (refine St.s (by assumption) (by repeat (first | exact Upd.head | apply Upd.tail)) (by simp) (by rfl) rfl ?_; intro _ _) | (exact S.ld (by assumption) (by repeat (first | exact List.Mem.head _ | refine List.Mem.tail _ ?_)) (by rfl)) | (refine lex_s (by assumption) ?_; intro _) | (refine Ret.useS (by assumption) (rright_spec _ _ _ _ _ _ _) ?_; intro _ _) | (refine Ret.useS (by assumption) (rparity_spec _ _ _ _ _) ?_; intro _ _) | (refine Join.intro fun J hJ => ?_) | (refine hJ _ _ ?_) | (refine ⟨_, _, min_run _ _ _ _ _ _, ?_⟩) | (refine ⟨_, _, max_run _ _ _ _ _ _, ?_⟩) | (refine dec_t ?_; intro _) | (refine dec_f ?_; intro _) | (refine not_t ?_) | (refine not_f ?_) | (refine beq_t ?_; intro _) | (refine beq_f ?_; intro _) | (refine bne_t ?_; intro _) | (refine bne_f ?_; intro _) | (with_reducible apply Exists.intro) | (exact rfl) | (exact S.ext (by assumption)) | (show (_ : Int) ≤ _; omega) | (show (_ : Int) < _; omega) | (show (_ : Int) ≠ _; omega) | (with_reducible apply And.intro) | (intro _) | (assumption))
  · have hn : ¬ InG c k r row i (IntKind.i64.wrap (c - 2)) := by assumption
    rw [in_data] at hn
    simp only [colG, if_neg hn]
  · grind [InG, OkG]
  · have hn : InG c k r row i (IntKind.i64.wrap (c - 2)) := by assumption
    rw [in_data] at hn
    have hc : 4 ≤ c ∧ c ≤ 10 := by grind [InG, OkG]
    have hi : 0 ≤ i ∧ i < c - 2 := by grind [InG]
    have h1 := firstG_bd c row hc
    have hq : parQ c k r row = firstG c row := by simp only [parQ]; rw [if_pos (by grind [InG])]
    simp only [colG, if_pos hn, hq]
    rw [wrap64 (firstG c row + 1) (by omega) (by omega), wrap64 _ (by omega) (by omega), tmod_nn (by omega)]
def RoleI (w : World) (Γ : List (Nat × Obj)) (m : Int) (vs : List Value) (w' : World) : Prop := ∃ n : Int, vs = [.int .i64 n] ∧ 0 ≤ n ∧ n ≤ m ∧ S w w' Γ
def RoleM (m : Int) (vs : List Value) (_ : World) : Nat := match vs with | [.int _ i] => (m - i).toNat | _ => 0
theorem rrole_spec (c k r row col : Int) (w : World) : Ret Tryz.prog 101 #[.agg #[.int .i64 c, .int .i64 k, .int .i64 r], .int .i64 row, .int .i64 col] w (.int .i64 (roleG c k r row col)) := by
  refine ret_of (revetmentref07_Role_calls ?_)
  unfold revetmentref07_Role
  have hS := S.start w
  refine Alloc.s hS fun b w1 hS1 => ⟨_, _, _, ⟨hS1.ld (by repeat (first | exact List.Mem.head _ | refine List.Mem.tail _ ?_)) rfl, hS1.ld (by repeat (first | exact List.Mem.head _ | refine List.Mem.tail _ ?_)) rfl, hS1.ld (by repeat (first | exact List.Mem.head _ | refine List.Mem.tail _ ?_)) rfl⟩, _, hS1.ld (by repeat (first | exact List.Mem.head _ | refine List.Mem.tail _ ?_)) rfl, ?_⟩
  refine Ret.useS hS1 (rright_spec _ _ _ _ _ _ _) fun w2 hS2 => ⟨_, rfl, not_t (dec_f fun hn => ⟨?_, hS2.ext⟩), not_f (dec_t fun hn => ?_)⟩
  · simp only [roleG, if_neg hn]
  refine ⟨_, _, _, ⟨hS2.ld (by repeat (first | exact List.Mem.head _ | refine List.Mem.tail _ ?_)) rfl, hS2.ld (by repeat (first | exact List.Mem.head _ | refine List.Mem.tail _ ?_)) rfl, hS2.ld (by repeat (first | exact List.Mem.head _ | refine List.Mem.tail _ ?_)) rfl⟩, ?_⟩
  refine Ret.useS hS2 (rparity_spec _ _ _ _ _) fun w3 hS3 => ⟨_, _, rfl, ?_⟩
  have hc : 4 ≤ c ∧ c ≤ 10 ∧ 0 ≤ row ∧ 0 ≤ col ∧ col < c := by grind [InG, OkG]
  have h1 := firstG_bd c row (by omega)
  have h01 : InG c k r row 0 1 := by grind [InG]
  have hq : parQ c k r row = firstG c row := by simp only [parQ, if_pos h01]
  have hp : parP c k r row = if firstG c row = 0 then c - 1 else firstG c row - 1 := by
    simp only [parP, if_pos h01]
    rw [mod2 _ _ (by omega) (by omega)]; split <;> split <;> omega
  have hb : (col - firstG c row + c) % c = if col < firstG c row then col - firstG c row + c else col - firstG c row := by
    rw [mod2 _ _ (by omega) (by omega)]; split <;> split <;> omega
  have hrole : roleG c k r row col = if (col - firstG c row + c) % c = 0 then c - 1 else (col - firstG c row + c) % c - 1 := by simp only [roleG, if_pos hn]
  rw [hq, hp]
  generalize hqd : firstG c row = q at *
  generalize hbb : (col - q + c) % c = bb at *
  refine ⟨beq_t fun he => ⟨_, hS3.ld (by repeat (first | exact List.Mem.head _ | refine List.Mem.tail _ ?_)) rfl, ?_, hS3.ext⟩, beq_f fun hne => ⟨beq_t fun he => ⟨_, hS3.ld (by repeat (first | exact List.Mem.head _ | refine List.Mem.tail _ ?_)) rfl, ?_, hS3.ext⟩, beq_f fun hne2 => ?_⟩⟩
  · refine retInt ?_
    rw [hrole, wrap64 _ (by omega) (by omega)]
    split at he <;> split at hb <;> split <;> omega
  · refine retInt ?_
    rw [hrole, wrap64 _ (by omega) (by omega)]
    split at hb <;> split <;> omega
  · have hm : 0 ≤ bb - 1 ∧ bb - 1 < c - 2 := by split at hne <;> split at hb <;> omega
    have hr : roleG c k r row col = bb - 1 := by rw [hrole, if_neg (by omega)]
    rw [hr]
    have hcol : ∀ n, 0 ≤ n → n < c - 2 → colG c k r row n = if q + 1 + n < c then q + 1 + n else q + 1 + n - c := by
      intro n h5 h6
      have : InG c k r row n (c - 2) := by grind [InG]
      simp only [colG, if_pos this, hqd]
      exact mod2 _ _ (by omega) (by omega)
    refine ⟨RoleI w _ (bb - 1), RoleM (bb - 1), ⟨0, rfl, by omega, by omega, hS3⟩, ?_⟩
    rintro vs w4 ⟨n, rfl, hn0, hn1, hS4⟩
    refine ⟨_, rfl, _, _, _, ⟨hS4.ld (by repeat (first | exact List.Mem.head _ | refine List.Mem.tail _ ?_)) rfl, hS4.ld (by repeat (first | exact List.Mem.head _ | refine List.Mem.tail _ ?_)) rfl, hS4.ld (by repeat (first | exact List.Mem.head _ | refine List.Mem.tail _ ?_)) rfl⟩, ?_⟩
    refine Ret.useS hS4 (rcolumn_spec _ _ _ _ _ _) fun w5 hS5 => ⟨_, rfl, ?_⟩
    have hn2 := hcol n hn0 (by omega)
    refine ⟨bne_t fun he => ?_, bne_f fun he => ⟨?_, hS5.ext⟩⟩
    · have : n < bb - 1 := by split at hn2 <;> split at hb <;> omega
      rw [wrap64 _ (by omega) (by omega)]
      exact ⟨⟨n + 1, rfl, by omega, by omega, hS5⟩, by simp only [RoleM]; omega⟩
    · refine retInt ?_
      split at hn2 <;> split at hb <;> omega
theorem rsector_spec (c k r row off : Int) (w : World) : Ret Tryz.prog 65 #[.agg #[.int .i64 c, .int .i64 k, .int .i64 r], .int .i64 row, .int .i64 off] w (.int .i64 (sectorG c k r row off)) := by
  refine ret_of (revetmentref07_Sector_calls ?_)
  unfold revetmentref07_Sector
  have hS := S.start w
  repeat' (first | (refine Alloc.s (by assumption) ?_; intro _ _ _) | (refine St.s (by assumption) (by repeat (first | exact Upd.head | apply Upd.tail)) (by simp) (by rfl) rfl ?_; intro _ _) | (exact S.ld (by assumption) (by repeat (first | exact List.Mem.head _ | refine List.Mem.tail _ ?_)) (by rfl)) | (refine lex_s (by assumption) ?_; intro _) | (refine Ret.useS (by assumption) (rright_spec _ _ _ _ _ _ _) ?_; intro _ _) | (refine Join.intro fun J hJ => ?_) | (refine hJ _ _ ?_) | (refine ⟨_, _, min_run _ _ _ _ _ _, ?_⟩) | (refine ⟨_, _, max_run _ _ _ _ _ _, ?_⟩) | (refine dec_t ?_; intro _) | (refine dec_f ?_; intro _) | (refine not_t ?_) | (refine not_f ?_) | (refine beq_t ?_; intro _) | (refine beq_f ?_; intro _) | (refine bne_t ?_; intro _) | (refine bne_f ?_; intro _) | (with_reducible apply Exists.intro) | (exact rfl) | (exact S.ext (by assumption)) | (show (_ : Int) ≤ _; omega) | (show (_ : Int) < _; omega) | (show (_ : Int) ≠ _; omega) | (with_reducible apply And.intro) | (intro _) | (assumption))
  · have hn : ¬ InG c k r row off k := by assumption
    simp only [sectorG, if_neg hn]
  · have hn : InG c k r row off k := by assumption
    have h1 := mul_bd (a := k) (b := row) (A := 4) (B := 256) (by grind [InG, OkG]) (by grind [InG, OkG]) (by grind [InG]) (by grind [InG, OkG])
    have h2 : 0 ≤ off ∧ off < 4 := by grind [InG, OkG]
    simp only [sectorG, if_pos hn]
    rw [Int.mul_comm row k, wrap64 (k * row) (by omega) (by omega), wrap64 (4 + k * row) (by omega) (by omega), wrap64 _ (by omega) (by omega)]
end Go.Proofs.YtedbbdeeofdepaaGreat
end
section
/-! The reference's refill: has, size, May, Make. -/
namespace Go.Proofs.YtedbbdeeofdepaaGreat
open Go.Sh Go.RowKit
set_option linter.unusedVariables false
set_option linter.unusedSimpArgs false
set_option maxRecDepth 20000
set_option maxHeartbeats 2000000
theorem has_spec {l : List Int} (hl : l.length ≤ 1000000) (x : Int) {p : Option Addr} {c : Nat} {w : World} (h : intsL w p l) : Ret Tryz.prog 131 #[.slice p l.length c, .int .i64 x] w (.bool (decide (x ∈ l))) := by
  refine ret_of (revetmentref06_has_calls ?_)
  unfold revetmentref06_has
  refine ⟨fun vs w' => w' = w ∧ ∃ i : Nat, vs = [.int .i64 (i : Int)] ∧ i ≤ l.length ∧ x ∉ l.take i, fun vs _ => match vs with | [.int _ i] => (l.length - i).toNat | _ => 0, ⟨rfl, 0, rfl, by omega, by simp⟩, ?_⟩
  rintro vs w1 ⟨rfl, i, rfl, hi, hni⟩
  refine ⟨_, rfl, dec_t fun hlt => ?_, dec_f fun hge => ?_⟩
  · have hlt : i < l.length := by omega
    obtain ⟨a, ha, hc⟩ := h.get hlt
    have hg : l.getD i 0 = l[i] := by simp [List.getD, hlt]
    refine ⟨a, ha, by omega, by omega, _, by rw [Int.toNat_natCast]; exact hc, beq_t fun hx => ⟨?_, Ext.refl _⟩, beq_f fun hx => ⟨⟨rfl, i + 1, ?_, by omega, ?_⟩, ?_⟩⟩
    · rw [decide_eq_true (by rw [← hx, hg]; exact List.getElem_mem hlt)]
    · rw [wrap64 _ (by omega) (by omega)]; rfl
    · rw [List.take_add_one, List.getElem?_eq_getElem hlt]
      intro hm
      rcases List.mem_append.1 hm with hm | hm
      · exact hni hm
      · rw [hg] at hx
        exact hx (Eq.symm (by simpa using hm))
    · show ((l.length : Int) - IntKind.i64.wrap ((i : Int) + 1)).toNat < ((l.length : Int) - (i : Int)).toNat
      rw [wrap64 _ (by omega) (by omega)]; omega
  · have hie : i = l.length := by omega
    subst hie
    rw [List.take_length] at hni
    exact ⟨by rw [decide_eq_false hni], Ext.refl _⟩
/-- the one length of what is not lost, below 0 if there is none -/
def SizeP (L : List Txt) (lost : List Int) (r : Int) : Prop :=
  (∃ m : Nat, r = m ∧ (∃ j, j < L.length ∧ (j : Int) ∉ lost) ∧ ∀ j, j < L.length → (j : Int) ∉ lost → (L.getD j []).length = m) ∨
  (r = -1 ∧ ((∀ j, j < L.length → (j : Int) ∈ lost) ∨ ∃ i j, i < L.length ∧ j < L.length ∧ (i : Int) ∉ lost ∧ (j : Int) ∉ lost ∧ (L.getD i []).length ≠ (L.getD j []).length))
theorem size_spec' {L : List Txt} {lost : List Int} (hl : lost.length ≤ 1000000) (hL : L.length ≤ 1000000) {p q : Option Addr} {c d : Nat} {w : World} (hp : strsL w p L) (hq : intsL w q lost) :
    Calls Tryz.prog 104 #[.slice p L.length c, .slice q lost.length d] w fun e w' => ∃ r : Int, e = .returned (.int .i64 r) ∧ SizeP L lost r ∧ Ext w w' := by
  refine (revetmentref06_size_calls (R := fun v w' => ∃ r : Int, v = .int .i64 r ∧ SizeP L lost r ∧ Ext w w') ?_).mono fun e w' ⟨v, he, r, hv, h⟩ => ⟨r, by rw [he, hv], h⟩
  unfold revetmentref06_size
  refine ⟨fun vs w' => Ext w w' ∧ ∃ (i : Nat) (n : Int), vs = [.int .i64 n, .int .i64 (i : Int)] ∧ i ≤ L.length ∧ ((n = -1 ∧ ∀ j, j < i → (j : Int) ∈ lost) ∨ ∃ m : Nat, n = m ∧ (∃ j, j < i ∧ (j : Int) ∉ lost) ∧ ∀ j, j < i → (j : Int) ∉ lost → (L.getD j []).length = m), fun vs _ => match vs with | [_, .int _ i] => (L.length - i).toNat | _ => 0, ⟨Ext.refl w, 0, -1, rfl, by omega, .inl ⟨rfl, fun j h => by omega⟩⟩, ?_⟩
  rintro vs w1 ⟨hx, i, n, rfl, hi, hinv⟩
  refine ⟨_, _, rfl, dec_t fun hlt => ?_, dec_f fun hge => ?_⟩
  · have hlt : i < L.length := by omega
    have hms : ((L.length : Int) - IntKind.i64.wrap ((i : Int) + 1)).toNat < ((L.length : Int) - (i : Int)).toNat := by rw [wrap64 _ (by omega) (by omega)]; omega
    have hnx : IntKind.i64.wrap ((i : Int) + 1) = ((i + 1 : Nat) : Int) := by rw [wrap64 _ (by omega) (by omega)]; omega
    refine (has_spec hl (i : Int) (c := d) (hq.ext hx)).mono fun e w2 ⟨he, hx2⟩ => ⟨_, he, dec_t fun hm => ?_, dec_f fun hm => Join.intro fun J hJ => ?_⟩
    · refine ⟨⟨hx.trans hx2, i + 1, n, by rw [hnx], by omega, ?_⟩, hms⟩
      rcases hinv with ⟨h8, h⟩ | ⟨m, h8, ⟨j, hj, hjl⟩, h⟩
      · exact .inl ⟨h8, fun j hj => by
          rcases Nat.lt_or_ge j i with h' | h'
          · exact h j h'
          · obtain rfl : j = i := by omega
            exact hm⟩
      · exact .inr ⟨m, h8, ⟨j, by omega, hjl⟩, fun j hj hl => by
          rcases Nat.lt_or_ge j i with h' | h'
          · exact h j h' hl
          · obtain rfl : j = i := by omega
            exact absurd hm hl⟩
    · obtain ⟨a, ha, hc⟩ := (hp.ext (hx.trans hx2)).get hlt
      have good : (∀ j, j < i → (j : Int) ∉ lost → (L.getD j []).length = (L.getD i []).length) → J [] w2 := fun heq => by
        refine hJ _ _ ⟨rfl, a, ha, by omega, by omega, _, by rw [Int.toNat_natCast]; exact hc, ?_⟩
        rw [strB_size]
        refine ⟨⟨hx.trans hx2, i + 1, ((L.getD i []).length : Int), by rw [hnx], by omega, .inr ⟨_, rfl, ⟨i, by omega, hm⟩, fun j hj hl => ?_⟩⟩, hms⟩
        rcases Nat.lt_or_ge j i with h' | h'
        · exact heq j h' hl
        · obtain rfl : j = i := by omega
          rfl
      rcases hinv with ⟨h8, h⟩ | ⟨m, h8, ⟨j, hj, hjl⟩, h⟩
      · subst h8
        exact no rfl (good fun j hj hl => absurd (h j hj) hl)
      · subst h8
        refine yes (decide_eq_true (by omega)) ⟨a, ha, by omega, by omega, _, by rw [Int.toNat_natCast]; exact hc, ?_⟩
        rw [strB_size]
        refine ⟨bne_t fun hne => ⟨-1, rfl, .inr ⟨rfl, .inr ⟨i, j, hlt, by omega, hm, hjl, ?_⟩⟩, hx.trans hx2⟩, bne_f fun he => good fun j' hj' hl' => ?_⟩
        · rw [h j hj hjl]; omega
        · rw [h j' hj' hl']; omega
  · have hie : i = L.length := by omega
    subst hie
    refine ⟨n, rfl, ?_, hx⟩
    rcases hinv with ⟨h8, h⟩ | ⟨m, h8, h9, h⟩
    · exact .inr ⟨h8, .inl h⟩
    · exact .inl ⟨m, h8, h9, h⟩
theorem pig : ∀ {n : Nat} {l : List Int}, l.Nodup → (∀ x ∈ l, 0 ≤ x ∧ x < (n : Int)) → l.length ≤ n
  | 0, l, _, h => by
    cases l with
    | nil => simp
    | cons x l => have := h x (by simp); omega
  | n + 1, l, hn, h => by
    have h1 : (l.erase (n : Int)).length ≤ n := pig (hn.erase _) fun x hx => by
      have a := h x (List.mem_of_mem_erase hx)
      have b : x ≠ (n : Int) := fun e => by
        subst e
        exact List.Nodup.not_mem_erase hn hx
      omega
    have h2 := List.length_erase (a := (n : Int)) (l := l)
    split at h2 <;> omega
theorem pig_miss {n j : Nat} {l : List Int} (hn : l.Nodup) (h : ∀ x ∈ l, 0 ≤ x ∧ x < (n : Int)) (hj : j < n) (hm : (j : Int) ∉ l) : l.length < n := by
  have := pig (n := n) (l := (j : Int) :: l) (List.nodup_cons.2 ⟨hm, hn⟩) fun x hx => by
    rcases List.mem_cons.1 hx with rfl | hx
    · omega
    · exact h x hx
  have : l.length + 1 ≤ n := by simpa using this
  omega
theorem cover : ∀ {n : Nat} {l : List Int}, (∀ j, j < n → (j : Int) ∈ l) → n ≤ l.length
  | 0, _, _ => by omega
  | n + 1, l, h => by
    have h1 : n ≤ (l.erase (n : Int)).length := cover fun j hj => (List.mem_erase_of_ne (by omega)).2 (h j (by omega))
    have h2 := List.length_erase_of_mem (h n (by omega))
    have h3 : 0 < l.length := List.length_pos_of_mem (h n (by omega))
    omega
theorem ints_to {p : Option Addr} {n c : Nat} {hi : Int} (h0 : 0 ≤ hi) (h2 : hi ≤ (c : Int)) (w : World) : (Instr.sliceAt 28 (.slice p n c) none (some (.int .i64 hi)) none).run Tryz.prog w = .ok (.slice p hi.toNat c) w := by
  have hsz : (sizeOf (Tryz.prog.elem 28)).run Tryz.prog w = .ok 1 w := by kernel_rfl
  rw [run_sliceAt_slice w _ _ _ _ _ (by kernel_rfl), run_slice_h w _ _ _ _ (by kernel_rfl) _ _ h0 h2, hsz]
  simp only [Result.andThen, sliced, Nat.zero_mul, Nat.sub_zero]
  congr 2
  split
  · rfl
  · cases p with
    | none => rfl
    | some a => simp [Addr.add]
theorem intsL.take {w : World} {p : Option Addr} {l : List Int} (h : intsL w p l) (n : Nat) : intsL w p (l.take n) :=
  ⟨fun hn => h.1 fun e => hn (by rw [e]; simp), fun a ha j x hj => h.2 a ha j x (by
    rw [List.getElem?_take] at hj
    split at hj
    · exact hj
    · cases hj)⟩
theorem mayR_spec {L : List Txt} {lost : List Int} (hl : lost.length ≤ 1000000) (hL : L.length ≤ 1000000) {p q : Option Addr} {c d : Nat} (hd : lost.length ≤ d) {w : World} (hp : strsL w p L) (hq : intsL w q lost) :
    Calls Tryz.prog 103 #[.slice p L.length c, .slice q lost.length d] w fun e w' => ∃ n : Int, e = .returned (.int .i64 n) ∧ Ext w w' ∧ (OkM L lost → n = if lost.length > 2 then 60 else 0) ∧ (¬ OkM L lost → n = 1) := by
  refine (revetmentref06_May_calls (R := fun v w' => ∃ n : Int, v = .int .i64 n ∧ Ext w w' ∧ (OkM L lost → n = if lost.length > 2 then 60 else 0) ∧ (¬ OkM L lost → n = 1)) ?_).mono fun e w' ⟨v, he, n, hv, h⟩ => ⟨n, by rw [he, hv], h⟩
  unfold revetmentref06_May
  have bad : ∀ {w'}, Ext w w' → ¬ OkM L lost → ∃ n : Int, Value.int .i64 1 = .int .i64 n ∧ Ext w w' ∧ (OkM L lost → n = if lost.length > 2 then 60 else 0) ∧ (¬ OkM L lost → n = 1) := fun hx hn => ⟨1, rfl, hx, fun h => absurd h hn, fun _ => rfl⟩
  refine ⟨dec_t fun h => bad (.refl w) (fun hk => by have := hk.n4; omega), dec_f fun n4 => ⟨dec_t fun h => bad (.refl w) (fun hk => by have := hk.n10; omega), dec_f fun n10 => ?_⟩⟩
  refine ⟨fun vs w' => Ext w w' ∧ ∃ i : Nat, vs = [.int .i64 (i : Int)] ∧ i ≤ lost.length ∧ (∀ x ∈ lost.take i, 0 ≤ x ∧ x < (L.length : Int)) ∧ (lost.take i).Nodup, fun vs _ => match vs with | [.int _ i] => (lost.length - i).toNat | _ => 0, ⟨Ext.refl w, 0, rfl, by omega, by simp, by simp⟩, ?_⟩
  rintro vs w1 ⟨hx, i, rfl, hi, hr, hnd⟩
  refine ⟨_, rfl, dec_t fun hlt => ?_, dec_f fun hge => ?_⟩
  · have hlt : i < lost.length := by omega
    have hg : lost.getD i 0 = lost[i] := by simp [List.getD, hlt]
    obtain ⟨a, ha, _⟩ := hq.get hlt
    have hc : ∀ w', Ext w w' → w'.cell? (Addr.add a (((i : Int)).toNat * 1)) = some (.int .i64 lost[i]) := fun w' h' => by
      obtain ⟨a', ha', hc⟩ := (hq.ext h').get hlt
      rw [ha] at ha'; cases ha'
      rw [Int.toNat_natCast, ← hg]; exact hc
    have hmem : lost[i] ∈ lost := List.getElem_mem hlt
    refine ⟨fun w' => Ext w w', hx.drew, a, ha, by omega, by omega, _, hc, dec_t fun h => bad hx.drew (fun hk => by have := hk.rng _ hmem; omega), dec_f fun x0 => ⟨a, ha, by omega, by omega, _, hc, dec_t fun h => bad hx.drew (fun hk => by have := hk.rng _ hmem; omega), dec_f fun x1 => ?_⟩⟩
    refine ⟨q, i, d, fun w' _ => by rw [ints_to (by omega) (by omega) w', Int.toNat_natCast], a, ha, by omega, by omega, _, hc, ?_⟩
    have hs := has_spec (l := lost.take i) (by rw [List.length_take]; omega) lost[i] (c := d) ((hq.ext hx.drew).take i)
    rw [List.length_take, Nat.min_eq_left (by omega)] at hs
    have htk : lost.take (i + 1) = lost.take i ++ [lost[i]] := by rw [List.take_add_one, List.getElem?_eq_getElem hlt]; rfl
    refine hs.mono fun e w2 ⟨he, hx2⟩ => ⟨_, he, hx.drew.trans hx2, dec_t fun hm => bad (hx.drew.trans hx2) (fun hk => not_nodup hlt hm hk.nodup), dec_f fun hm => ⟨⟨hx.drew.trans hx2, i + 1, ?_, by omega, ?_, ?_⟩, ?_⟩⟩
    · rw [wrap64 _ (by omega) (by omega)]; rfl
    · rw [htk]
      intro x hx
      rcases List.mem_append.1 hx with hx | hx
      · exact hr x hx
      · obtain rfl := List.mem_singleton.1 hx
        omega
    · rw [htk, List.nodup_append]
      refine ⟨hnd, by simp, fun x hx y hy => ?_⟩
      obtain rfl := List.mem_singleton.1 hy
      exact fun e => hm (e ▸ hx)
    · show ((lost.length : Int) - IntKind.i64.wrap ((i : Int) + 1)).toNat < ((lost.length : Int) - (i : Int)).toNat
      rw [wrap64 _ (by omega) (by omega)]; omega
  · have hie : i = lost.length := by omega
    subst hie
    rw [List.take_length] at hr hnd
    refine (size_spec' hl hL (c := c) (d := d) (hp.ext hx) (hq.ext hx)).mono fun e w2 ⟨r, he, hr2, hx2⟩ => ⟨r, he, Join.intro fun J hJ => ?_⟩
    have fin : OkM L lost → J [] w2 := fun hk => hJ _ _ ⟨rfl, dec_t fun h => ⟨60, rfl, hx.trans hx2, fun _ => by rw [if_pos (by omega)], fun hn => absurd hk hn⟩, dec_f fun h => ⟨0, rfl, hx.trans hx2, fun _ => by rw [if_neg (by omega)], fun hn => absurd hk hn⟩⟩
    refine ⟨dec_t fun hlt => ⟨dec_t fun h0 => bad (hx.trans hx2) fun hk => ?_, dec_f fun h0 => ⟨dec_t fun h4 => bad (hx.trans hx2) fun hk => ?_, dec_f fun h4 => fin ?_⟩⟩, dec_f fun hge => fin ⟨by omega, by omega, hr, hnd, 0, by omega, fun j hj hm => absurd (pig_miss hnd hr hj hm) (by omega)⟩⟩
    · rcases hr2 with ⟨m, rfl, _⟩ | ⟨_, hall | ⟨i, j, hi, hj, him, hjm, hne⟩⟩
      · omega
      · have := cover hall
        omega
      · obtain ⟨m, _, h⟩ := hk.lens
        exact hne (by rw [h i hi him, h j hj hjm])
    · rcases hr2 with ⟨m, rfl, ⟨j, hj, hjm⟩, h⟩ | ⟨rfl, _⟩
      · obtain ⟨m', h4', h'⟩ := hk.lens
        have e1 := h j hj hjm
        have e2 := h' j hj hjm
        omega
      · omega
    · rcases hr2 with ⟨m, rfl, _, h⟩ | ⟨rfl, _⟩
      · exact ⟨by omega, by omega, hr, hnd, m, by omega, h⟩
      · omega
end Go.Proofs.YtedbbdeeofdepaaGreat
end
section
/-! The reference's refill: at, sums; the search for a byte. -/
namespace Go.Proofs.YtedbbdeeofdepaaGreat
open Go.Sh Go.RowKit
set_option linter.unusedVariables false
set_option linter.unusedSimpArgs false
set_option maxRecDepth 20000
set_option maxHeartbeats 2000000
def atZ (L : List Txt) (lost : List Int) (k : Nat) : Nat → UInt8 := fun c => if (c : Int) ∈ lost then 0 else (L.getD c []).getD k 0
def atL (L : List Txt) (lost : List Int) (k : Nat) : Txt := (List.range L.length).map (atZ L lost k)
theorem atL_len (L : List Txt) (lost : List Int) (k : Nat) : (atL L lost k).length = L.length := by simp [atL]
theorem at06_spec {L : List Txt} {lost : List Int} {k : Nat} (hl : lost.length ≤ 1000000) (hL : L.length ≤ 1000) (hk : ∀ j, j < L.length → (j : Int) ∉ lost → k < (L.getD j []).length) {p q : Option Addr} {c d : Nat} {w0 w : World} {Γ : List A} (hp : strsL w0 p L) (hq : intsL w0 q lost) (hT : T [] w0 w Γ) :
    Calls Tryz.prog 106 #[.slice p L.length c, .slice q lost.length d, .int .i64 (k : Int)] w fun e w' => ∃ g cap, e = .returned (.slice (ptr g) L.length cap) ∧ T [] w0 w' (rowP 5 1 g L.length cap (bvals (atL L lost k)) :: Γ) := by
  refine (revetmentref06_at_calls (R := fun v w' => ∃ g cap, v = .slice (ptr g) L.length cap ∧ T [] w0 w' (rowP 5 1 g L.length cap (bvals (atL L lost k)) :: Γ)) ?_).mono fun e w' ⟨v, he, g, cap, hv, h⟩ => ⟨g, cap, by rw [he, hv], h⟩
  unfold revetmentref06_at
  refine Alloc.t hT fun k0 w1 h1 => ?_
  have h1 : T [] w0 w1 (rowP 5 1 (some k0) 0 0 (bvals ((atL L lost k).take 0)) :: Γ) := blk_row h1 rfl rfl (by decide)
  refine ⟨fun vs w' => ∃ (i : Nat) (g : Option Nat) (cap : Nat), vs = [.slice (ptr g) i cap, .int .i64 (i : Int)] ∧ i ≤ L.length ∧ T [] w0 w' (rowP 5 1 g i cap (bvals ((atL L lost k).take i)) :: Γ), fun vs _ => match vs with | [_, .int _ i] => (L.length - i).toNat | _ => 0, ⟨0, some k0, 0, rfl, by omega, h1⟩, ?_⟩
  rintro vs w2 ⟨i, g, cap, rfl, hi, h2⟩
  refine ⟨_, _, _, _, rfl, dec_t fun hlt => ?_, dec_f fun hge => ?_⟩
  · have hlt : i < L.length := by omega
    refine Join.intro fun J hJ => ?_
    refine (has_spec hl (i : Int) (c := d) (hq.ext h2.chg.ext)).mono fun e w3 ⟨he, hx3⟩ => ?_
    have h3 := h2.quiet hx3
    have main : J [.int .u8 ((atZ L lost k i).toNat : Int)] w3 := by
      refine hJ _ _ ⟨_, rfl, ?_⟩
      refine push1_t (i := Tryz.t5) (z := .int .u8 0) (by kernel_rfl) (by kernel_rfl) (by kernel_rfl) (by kernel_rfl) (by kernel_rfl) (by kernel_rfl) h3 .head rfl (by omega) fun g2 cap2 w8 h8 => ⟨⟨i + 1, g2, cap2, ?_, by omega, ?_⟩, ?_⟩
      · rw [wrap64 _ (by omega) (by omega)]; rfl
      · rw [bvals_next (by simp [atL, hlt])] at h8
        exact h8
      · show ((L.length : Int) - IntKind.i64.wrap ((i : Int) + 1)).toNat < ((L.length : Int) - (i : Int)).toNat
        rw [wrap64 _ (by omega) (by omega)]; omega
    refine ⟨_, he, fun hb => ?_, fun hb => ?_⟩
    · have hm : (i : Int) ∉ lost := by simpa using hb
      obtain ⟨a, ha, hc⟩ := (hp.ext h3.chg.ext).get hlt
      have hkl := hk i hlt hm
      have hix := index_str (P := Tryz.prog) (t := 9) (k := .i64) (n := (k : Int)) (s := strB (L.getD i [])) (w := w3) (by kernel_rfl) (by omega) (by rw [strB_size]; omega)
      rw [Int.toNat_natCast] at hix
      have e1 : atZ L lost k i = (L.getD i []).getD k 0 := if_neg hm
      rw [e1] at main
      exact ⟨a, ha, by omega, by omega, _, by rw [Int.toNat_natCast]; exact hc, _, w3, hix, main⟩
    · have hm : (i : Int) ∈ lost := by simpa using hb
      have e1 : atZ L lost k i = 0 := if_pos hm
      rw [e1] at main
      exact main
  · have hie : i = L.length := by omega
    subst hie
    rw [List.take_of_length_le (by rw [atL_len]; omega)] at h2
    exact ⟨g, cap, rfl, h2⟩
def vf (v : Txt) : Nat → UInt8 := fun c => v.getD c 0
def pS (v : Txt) : UInt8 := vf v (v.length - 2) ^^^ sx (vf v) (v.length - 2)
def qS (v : Txt) : UInt8 := vf v (v.length - 1) ^^^ sx (wq (vf v)) (v.length - 2)
theorem row_byte {F : List Nat} {w0 w : World} {Γ : List A} {b n cap : Nat} {v : Txt} (h : T F w0 w Γ) (hm : rowP 5 1 (some b) n cap (bvals v) ∈ Γ) {j : Nat} (hj : j < v.length) : w.cell? (Addr.add ⟨b, 0, none⟩ (j * 1)) = some (.int .u8 ((vf v j).toNat : Int)) := by
  rw [addr_add, Nat.zero_add, Nat.mul_one]
  refine rowP.cell (h.says hm) ?_
  rw [bvals_get]
  simp [vf, List.getD, hj]
theorem bvals_put (v : Txt) (j : Nat) (x : UInt8) : (bvals v).set j (.int .u8 (x.toNat : Int)) = bvals (v.set j x) := by simp [bvals, List.map_set]
theorem StB.t {F : List Nat} {w0 w : World} {Γ Δ : List A} {n cap b k : Nat} {v : Txt} {x : UInt8} {K : World → Prop} (hT : T F w0 w Γ) (hk : Pick (rowP 5 1 (some b) n cap (bvals v)) Γ Δ) (hkl : k < v.length)
    (h : ∀ w', T F w0 w' (rowP 5 1 (some b) n cap (bvals (v.set k x)) :: Δ) → K w') : St (Addr.add ⟨b, 0, none⟩ (k * 1)) (.int .u8 (x.toNat : Int)) w K := by
  rw [addr_add, Nat.zero_add, Nat.mul_one]
  refine StRow.t hT hk (by rw [bvals_len]; exact hkl) rfl fun w' h' => h w' ?_
  rw [bvals_put] at h'
  exact h'
theorem row_vlen {F : List Nat} {w0 w : World} {Γ : List A} {g : Option Nat} {n cap : Nat} {v : Txt} (h : T F w0 w Γ) (hm : rowP 5 1 g n cap (bvals v) ∈ Γ) : v.length = n := by
  have := rowP.len (h.says hm)
  rw [bvals_len] at this; omega
theorem sums_spec {v : Txt} (h2 : 2 ≤ v.length) (h200 : v.length ≤ 200) {F : List Nat} {w0 w : World} {Γ : List A} {b n cap : Nat} (hT : T F w0 w Γ) (hm : rowP 5 1 (some b) n cap (bvals v) ∈ Γ) :
    Ret Tryz.prog 132 #[.slice (some ⟨b, 0, none⟩) n cap] w (.tuple #[.int .u8 ((pS v).toNat : Int), .int .u8 ((qS v).toNat : Int)]) := by
  refine ret_of (revetmentref06_sums_calls ?_)
  unfold revetmentref06_sums
  have hvn := row_vlen hT hm
  subst hvn
  have e1 : IntKind.i64.wrap ((v.length : Int) - 2) = ((v.length - 2 : Nat) : Int) := by rw [wrap64 _ (by omega) (by omega)]; omega
  have e2 : IntKind.i64.wrap (((v.length - 2 : Nat) : Int) + 1) = ((v.length - 1 : Nat) : Int) := by rw [wrap64 _ (by omega) (by omega)]; omega
  simp only [e1, e2]
  have cell : ∀ w', Ext w w' → ∀ j : Nat, j < v.length → w'.cell? (Addr.add ⟨b, 0, none⟩ (((j : Nat) : Int).toNat * 1)) = some (.int .u8 ((vf v j).toNat : Int)) := fun w' hx j hj => by
    rw [Int.toNat_natCast]
    exact row_byte (hT.quiet hx) hm hj
  refine ⟨_, rfl, by omega, by omega, _, cell w (Ext.refl w) _ (by omega), _, rfl, by omega, by omega, _, cell w (Ext.refl w) _ (by omega), ?_⟩
  refine ⟨fun vs w' => Ext w w' ∧ ∃ i : Nat, vs = [.int .u8 ((vf v (v.length - 2) ^^^ sx (vf v) i).toNat : Int), .int .u8 ((vf v (v.length - 1) ^^^ sx (wq (vf v)) i).toNat : Int), .int .i64 (i : Int)] ∧ i ≤ v.length - 2, fun vs _ => match vs with | [_, _, .int _ i] => ((v.length - 2 : Nat) - i).toNat | _ => 0, ⟨Ext.refl w, 0, by simp [sx], by omega⟩, ?_⟩
  rintro vs w1 ⟨hx, i, rfl, hi⟩
  refine ⟨_, _, _, rfl, dec_t fun hlt => ?_, dec_f fun hge => ?_⟩
  · have hlt : i < v.length - 2 := by omega
    refine ⟨_, rfl, by omega, by omega, _, cell w1 hx i (by omega), fun w' => Ext w w', hx.drew, _, rfl, by omega, by omega, _, fun w' h' => cell w' h' i (by omega), ?_⟩
    refine (expR_spec (i : Int) _).mono fun e w2 ⟨he, hx2⟩ => ⟨_, he, hx.drew.trans hx2, ?_⟩
    rw [exI_pos (by omega)]
    refine (mulR_spec (vf v i) (ex i) w2).mono fun e w3 ⟨he, hx3⟩ => ⟨_, he, (hx.drew.trans hx2).trans hx3, ⟨(hx.drew.trans hx2).trans hx3, i + 1, ?_, by omega⟩, ?_⟩
    · rw [u8_xor, u8_xor, wrap64 _ (by omega) (by omega), UInt8.xor_assoc, UInt8.xor_assoc, mulG_ex]; rfl
    · show (((v.length - 2 : Nat) : Int) - IntKind.i64.wrap ((i : Int) + 1)).toNat < (((v.length - 2 : Nat) : Int) - (i : Int)).toNat
      rw [wrap64 _ (by omega) (by omega)]; omega
  · have hie : i = v.length - 2 := by omega
    subst hie
    exact ⟨rfl, hx⟩
/-! one place, filled -/
theorem vf_set {v : Txt} {i : Nat} (hi : i < v.length) (x : UInt8) (c : Nat) : vf (v.set i x) c = if i = c then x else vf v c := by
  unfold vf
  simp only [List.getD_eq_getElem?_getD, List.getElem?_set]
  by_cases h : i = c
  · rw [if_pos h, if_pos hi, if_pos h]; rfl
  · rw [if_neg h, if_neg h]
theorem vf_out {v : Txt} {i c : Nat} (hi : i < v.length) (h : c ≠ i) (x : UInt8) : vf (v.set i x) c = vf v c := by rw [vf_set hi, if_neg (Ne.symm h)]
theorem vf_at {v : Txt} {i : Nat} (hi : i < v.length) (x : UInt8) : vf (v.set i x) i = x := by rw [vf_set hi, if_pos rfl]
theorem sx_put {v : Txt} {i n : Nat} (hi : i < n) (hn : n ≤ v.length) (x : UInt8) : sx (vf (v.set i x)) n = sx (vf v) n ^^^ (x ^^^ vf v i) := by
  have h := sx_xor (vf (v.set i x)) (vf v) n
  rw [sx_one (f := fun c => vf (v.set i x) c ^^^ vf v c) hi fun c hc h1 => by rw [vf_out (by omega) h1, UInt8.xor_self], vf_at (by omega)] at h
  rw [h, UInt8.xor_comm, UInt8.xor_assoc, UInt8.xor_self, UInt8.xor_zero]
theorem sq_put {v : Txt} {i n : Nat} (hi : i < n) (hn : n ≤ v.length) (x : UInt8) : sx (wq (vf (v.set i x))) n = sx (wq (vf v)) n ^^^ xp i (x ^^^ vf v i) := by
  have h := sx_xor (wq (vf (v.set i x))) (wq (vf v)) n
  rw [sx_one (f := fun c => wq (vf (v.set i x)) c ^^^ wq (vf v) c) hi fun c hc h1 => by unfold wq; rw [vf_out (by omega) h1, UInt8.xor_self]] at h
  unfold wq at h ⊢
  rw [vf_at (by omega), ← xp_xor] at h
  rw [h, UInt8.xor_comm, UInt8.xor_assoc, UInt8.xor_self, UInt8.xor_zero]
theorem xor_mid (a b : UInt8) : a ^^^ (b ^^^ a) = b := by rw [UInt8.xor_comm b, ← UInt8.xor_assoc, UInt8.xor_self, UInt8.zero_xor]
/-- by P -/
theorem put_p {v : Txt} {d : Nat} (hd : d < v.length - 2) (h0 : vf v d = 0) : PRel (vf (v.set d (pS v))) (v.length - 2) := by
  unfold PRel
  rw [sx_put hd (by omega), vf_out (by omega) (by omega), h0, UInt8.xor_zero]
  unfold pS
  rw [xor_mid]
/-- by Q -/
theorem put_q {v : Txt} {d : Nat} {x : UInt8} (hd : d < v.length - 2) (h0 : vf v d = 0) (hx : xp d x = qS v) : QRel (vf (v.set d x)) (v.length - 2) := by
  unfold QRel
  rw [sq_put hd (by omega), vf_out (by omega) (by omega), h0, UInt8.xor_zero, hx]
  unfold qS
  rw [show v.length - 2 + 1 = v.length - 1 by omega, xor_mid]
theorem put_pq {v : Txt} {d k : Nat} {x : UInt8} (hd : d < v.length - 2) (hk : k < v.length - 2) (hdk : d ≠ k) (h0 : vf v d = 0) (h1 : vf v k = 0) (hx : xp d x ^^^ xp k (x ^^^ pS v) = qS v) : PRel (vf ((v.set d x).set k (x ^^^ pS v))) (v.length - 2) ∧ QRel (vf ((v.set d x).set k (x ^^^ pS v))) (v.length - 2) := by
  constructor
  · unfold PRel
    rw [sx_put hk (by simp), vf_out (by simp; omega) (by omega), vf_out (by omega) (by omega), sx_put hd (by omega), vf_out (by omega) (Ne.symm hdk), h0, h1, UInt8.xor_zero, UInt8.xor_zero, UInt8.xor_assoc, ← UInt8.xor_assoc x, UInt8.xor_self, UInt8.zero_xor]
    unfold pS
    rw [xor_mid]
  · unfold QRel
    rw [sq_put hk (by simp), vf_out (by simp; omega) (by omega), vf_out (by omega) (by omega), sq_put hd (by omega), vf_out (by omega) (Ne.symm hdk), h0, h1, UInt8.xor_zero, UInt8.xor_zero, UInt8.xor_assoc, hx]
    unfold qS
    rw [show v.length - 2 + 1 = v.length - 1 by omega, xor_mid]
/-- the last touch: P, and Q -/
theorem fix_p {v : Txt} (h2 : 2 ≤ v.length) : PRel (vf (v.set (v.length - 2) (vf v (v.length - 2) ^^^ pS v))) (v.length - 2) := by
  unfold PRel
  rw [vf_at (by omega)]
  unfold pS
  rw [← UInt8.xor_assoc, UInt8.xor_self, UInt8.zero_xor]
  exact sx_congr fun c hc => (vf_out (by omega) (by omega) _).symm
theorem fix_p_q {v : Txt} (h2 : 2 ≤ v.length) (x : UInt8) (hQ : QRel (vf v) (v.length - 2)) : QRel (vf (v.set (v.length - 2) x)) (v.length - 2) := by
  unfold QRel at hQ ⊢
  rw [vf_out (by omega) (by omega), hQ]
  exact sx_congr fun c hc => congrArg (xp c) (vf_out (by omega) (by omega) _).symm
theorem fix_q {v u : Txt} (h2 : 2 ≤ v.length) (hu : u.length = v.length) (hs : ∀ c, c ≠ v.length - 2 → vf u c = vf v c) : QRel (vf (u.set (v.length - 1) (vf u (v.length - 1) ^^^ qS v))) (v.length - 2) := by
  unfold QRel
  rw [show v.length - 2 + 1 = v.length - 1 by omega, vf_at (by omega), hs _ (by omega)]
  unfold qS
  rw [← UInt8.xor_assoc, UInt8.xor_self, UInt8.zero_xor]
  exact sx_congr fun c hc => congrArg (xp c) (by rw [vf_out (by omega) (by omega), hs c (by omega)])
theorem fix_q_p {v u : Txt} (h2 : 2 ≤ v.length) (hu : u.length = v.length) (x : UInt8) (hP : PRel (vf u) (v.length - 2)) : PRel (vf (u.set (v.length - 1) x)) (v.length - 2) := by
  unfold PRel at hP ⊢
  rw [vf_out (by omega) (by omega), hP]
  exact sx_congr fun c hc => (vf_out (by omega) (by omega) _).symm
end Go.Proofs.YtedbbdeeofdepaaGreat
end
