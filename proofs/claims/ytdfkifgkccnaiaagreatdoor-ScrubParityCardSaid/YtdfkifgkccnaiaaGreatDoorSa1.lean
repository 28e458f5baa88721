import Derived.Test.YtdfkifgkccnaiaaGreatDoorRe3
/-! What the laws of rows share: Same, texts as lists of bytes, how many columns. -/
namespace Go.Proofs.YtdfkifgkccnaiaaGreatDoor
open Go.Sh Go.RowKit
set_option linter.unusedVariables false
set_option linter.unusedSimpArgs false
set_option maxRecDepth 20000
set_option maxHeartbeats 2000000
theorem same_spec {A B : List Txt} {p q : Option Addr} {c d : Nat} {w : World} (hl : A.length ≤ 1000000) (hp : strsL w p A) (hq : strsL w q B) : Ret Tryz.prog 13 #[.slice p A.length c, .slice q B.length d] w (.bool (decide (A = B))) := by
  refine ret_of (revetmentref06_Same_calls ?_)
  unfold revetmentref06_Same
  refine ⟨bne_t fun hne => ⟨by rw [decide_eq_false (fun e => hne (by rw [e]))], Ext.refl w⟩, bne_f fun he => ?_⟩
  have he : A.length = B.length := by omega
  refine ⟨fun vs w' => Ext w w' ∧ ∃ i : Nat, vs = [.int .i64 (i : Int)] ∧ i ≤ A.length ∧ A.take i = B.take i, fun vs _ => match vs with | [.int _ i] => (A.length - i).toNat | _ => 0, ⟨.refl w, 0, rfl, by omega, rfl⟩, ?_⟩
  rintro vs w1 ⟨hx, i, rfl, hi, hs⟩
  refine ⟨_, rfl, dec_t fun hlt => ?_, dec_f fun hge => ?_⟩
  · have hlt : i < A.length := by omega
    obtain ⟨a, ha, _⟩ := hp.get hlt
    obtain ⟨b, hb, _⟩ := hq.get (n := i) (by omega)
    have hgA : A.getD i [] = A[i] := by simp [List.getD, hlt]
    have hgB : B.getD i [] = B[i]'(by omega) := by simp [List.getD, show i < B.length by omega]
    refine ⟨fun w' => Ext w w', hx.drew, a, ha, by omega, by omega, strB (A.getD i []), fun w' h' => ?_, b, hb, by omega, by omega, strB (B.getD i []), fun w' h' => ?_, ?_⟩
    · obtain ⟨a', ha', hc⟩ := (hp.ext h').get hlt
      rw [ha] at ha'; cases ha'
      rw [Int.toNat_natCast]; exact hc
    · obtain ⟨b', hb', hc⟩ := (hq.ext h').get (n := i) (by omega)
      rw [hb] at hb'; cases hb'
      rw [Int.toNat_natCast]; exact hc
    · rw [strB_toList, strB_toList, hgA, hgB]
      by_cases heq : A[i] = B[i]'(by omega)
      · rw [heq]
        refine no (by simp) ⟨⟨hx.drew, i + 1, ?_, by omega, ?_⟩, ?_⟩
        · rw [wrap64 _ (by omega) (by omega)]; rfl
        · rw [List.take_add_one, List.take_add_one, hs, List.getElem?_eq_getElem hlt, List.getElem?_eq_getElem (show i < B.length by omega), heq]
        · show ((A.length : Int) - IntKind.i64.wrap ((i : Int) + 1)).toNat < ((A.length : Int) - (i : Int)).toNat
          rw [wrap64 _ (by omega) (by omega)]; omega
      · refine yes (by simpa using heq) ⟨?_, hx.drew⟩
        rw [decide_eq_false]
        intro e
        subst e
        exact heq rfl
  · have hie : i = A.length := by omega
    subst hie
    rw [List.take_length, he, List.take_length] at hs
    exact ⟨by rw [decide_eq_true hs], hx⟩
theorem range_take_map {α : Type} (f : Nat → α) (n i : Nat) (h : i < n) : ((List.range n).map f).take i ++ [f i] = ((List.range n).map f).take (i + 1) := by
  rw [List.take_add_one]
  simp [h]
theorem srt_two {a b : Int} (h : a < b) : srt [a, b] = [a, b] ∧ srt [b, a] = [a, b] := by
  have key : ∀ l : List Int, l.length = 2 → (∀ x, x ∈ l ↔ (x = a ∨ x = b)) → srt l = [a, b] := by
    intro l hl hm
    have hlen := srt_len l
    have hs : (srt l).Pairwise fun x y => decide (x ≤ y) = true := List.pairwise_mergeSort (fun x y z h1 h2 => by simp at *; omega) (fun x y => by simp; omega) l
    match hq : srt l, (by rw [hlen, hl] : (srt l).length = 2) with
    | [x, y], _ =>
      rw [hq] at hs
      have hxy : x ≤ y := by simpa using hs
      have ha : a ∈ [x, y] := by rw [← hq, srt_mem, hm]; exact .inl rfl
      have hb : b ∈ [x, y] := by rw [← hq, srt_mem, hm]; exact .inr rfl
      simp only [List.mem_cons, List.not_mem_nil, or_false] at ha hb
      have : x = a ∧ y = b := by omega
      rw [this.1, this.2]
  exact ⟨key _ rfl fun x => by simp, key _ rfl fun x => by simp [or_comm]⟩
/-- texts, as lists of bytes -/
def bls (l : List ByteArray) : List Txt := l.map fun s => s.data.toList
theorem bls_len (l : List ByteArray) : (bls l).length = l.length := List.length_map ..
theorem bls_strs {w : World} {p : Option Addr} {l : List ByteArray} (h : strsAt w p l) : strsL w p (bls l) := by
  unfold strsL bls
  rw [List.map_map]
  have : (strB ∘ fun s : ByteArray => s.data.toList) = id := by funext s; exact strB_list s
  rw [this, List.map_id]
  exact h
/-- how many columns -/
def colsN (m : Int) : Nat := 4 + (m % 7).toNat
theorem cols_eq {m : Int} (h : 0 ≤ m ∧ m < 256) : IntKind.i64.wrap (4 + Int.tmod (IntKind.i64.wrap m) 7) = ((colsN m : Nat) : Int) ∧ 4 ≤ colsN m ∧ colsN m ≤ 10 := by
  unfold colsN
  rw [wrap64 m (by omega) (by omega), Int.tmod_eq_emod_of_nonneg h.1, wrap64 _ (by omega) (by omega)]
  omega
theorem pick_eq {x : Int} {n : Nat} (h : 0 ≤ x ∧ x < 256) : Int.tmod (IntKind.i64.wrap x) (n : Int) = ((x.toNat % n : Nat) : Int) := by
  rw [wrap64 x (by omega) (by omega), Int.tmod_eq_emod_of_nonneg h.1]
  push_cast
  rw [Int.toNat_of_nonneg h.1]
end Go.Proofs.YtdfkifgkccnaiaaGreatDoor
