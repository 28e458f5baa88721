import Derived.Test.YtignilchdffafaaGreatRe3
/-! law06: heavy, Same, square, shown. -/
namespace Go.Proofs.YtignilchdffafaaGreat
open Go.Sh Go.RowKit
set_option linter.unusedVariables false
set_option linter.unusedSimpArgs false
set_option maxRecDepth 20000
set_option maxHeartbeats 2000000
/-- too much for the statements -/
def heavyB (L : List Txt) (n : Nat) : Bool := decide (20 < L.length) || decide (20 < n) || L.any fun x => decide (100 < x.length)
theorem heavy_spec {L : List Txt} {p q : Option Addr} {c n d : Nat} {w : World} (h : strsL w p L) : Ret Tryz.prog 7 #[.slice p L.length c, .slice q n d] w (.bool (heavyB L n)) := by
  refine ret_of (revetmentlaw06_heavy_calls ?_)
  unfold revetmentlaw06_heavy
  refine ⟨dec_t fun h1 => ⟨?_, Ext.refl w⟩, dec_f fun h1 => ⟨dec_t fun h2 => ⟨?_, Ext.refl w⟩, dec_f fun h2 => ?_⟩⟩
  · unfold heavyB; rw [decide_eq_true (by omega)]; rfl
  · unfold heavyB; rw [decide_eq_true (show 20 < n by omega)]; simp
  refine ⟨fun vs w' => w' = w ∧ ∃ i : Nat, vs = [.int .i64 (i : Int)] ∧ i ≤ L.length ∧ (L.take i).any (fun x => decide (100 < x.length)) = false, fun vs _ => match vs with | [.int _ i] => (L.length - i).toNat | _ => 0, ⟨rfl, 0, rfl, by omega, rfl⟩, ?_⟩
  rintro vs w1 ⟨rfl, i, rfl, hi, hs⟩
  refine ⟨_, rfl, dec_t fun hlt => ?_, dec_f fun hge => ?_⟩
  · have hlt : i < L.length := by omega
    obtain ⟨a, ha, hc⟩ := h.get hlt
    have hg : L.getD i [] = L[i] := by simp [List.getD, hlt]
    refine ⟨a, ha, by omega, by omega, _, by rw [Int.toNat_natCast]; exact hc, ?_⟩
    rw [strB_size, hg]
    refine ⟨dec_t fun hb => ⟨?_, Ext.refl _⟩, dec_f fun hb => ⟨⟨rfl, i + 1, ?_, by omega, ?_⟩, ?_⟩⟩
    · have : L.any (fun x => decide (100 < x.length)) = true := List.any_eq_true.2 ⟨L[i], List.getElem_mem hlt, decide_eq_true (by omega)⟩
      unfold heavyB; rw [this, Bool.or_true]
    · rw [wrap64 _ (by omega) (by omega)]; rfl
    · rw [List.take_add_one, List.getElem?_eq_getElem hlt, List.any_append, hs]
      simp; omega
    · show ((L.length : Int) - IntKind.i64.wrap ((i : Int) + 1)).toNat < ((L.length : Int) - (i : Int)).toNat
      rw [wrap64 _ (by omega) (by omega)]; omega
  · have hie : i = L.length := by omega
    subst hie
    rw [List.take_length] at hs
    refine ⟨?_, Ext.refl _⟩
    unfold heavyB
    rw [hs, decide_eq_false (by omega), decide_eq_false (by omega)]; rfl
theorem heavy_short {L : List Txt} {n : Nat} (h : heavyB L n = false) : L.length ≤ 20 ∧ n ≤ 20 ∧ Short L ∧ ∀ x ∈ L, x.length ≤ 100 := by
  unfold heavyB at h
  simp only [Bool.or_eq_false_iff, decide_eq_false_iff_not, List.any_eq_false, Bool.not_eq_true] at h
  obtain ⟨⟨h1, h2⟩, h3⟩ := h
  have h4 : ∀ x ∈ L, x.length ≤ 100 := fun x hx => by have := h3 x hx; omega
  exact ⟨by omega, by omega, fun x hx => by have := h4 x hx; omega, h4⟩
theorem same_spec {A B : List Txt} {p q : Option Addr} {c d : Nat} {w : World} (hl : A.length ≤ 1000000) (hp : strsL w p A) (hq : strsL w q B) : Ret Tryz.prog 15 #[.slice p A.length c, .slice q B.length d] w (.bool (decide (A = B))) := by
  refine ret_of (revetmentref06_Same_calls ?_)
  unfold revetmentref06_Same
  refine ⟨bne_t fun hne => ⟨by rw [decide_eq_false (fun e => hne (by rw [e]))], Ext.refl w⟩, bne_f fun he => ?_⟩
  have he : A.length = B.length := by omega
  refine ⟨fun vs w' => Ext w w' ∧ ∃ i : Nat, vs = [.int .i64 (i : Int)] ∧ i ≤ A.length ∧ A.take i = B.take i, fun vs _ => match vs with | [.int _ i] => (A.length - i).toNat | _ => 0, ⟨.refl w, 0, rfl, by omega, rfl⟩, ?_⟩
  rintro vs w1 ⟨hx, i, rfl, hi, hs⟩
  refine ⟨_, rfl, dec_t fun hlt => ?_, dec_f fun hge => ?_⟩
  · have hlt : i < A.length := by omega
    obtain ⟨a, ha, _⟩ := hp.get hlt
    obtain ⟨b, hb, _⟩ := hq.get (n := i) (by omega)
    have hgA : A.getD i [] = A[i] := by simp [List.getD, hlt]
    have hgB : B.getD i [] = B[i]'(by omega) := by simp [List.getD, show i < B.length by omega]
    refine ⟨fun w' => Ext w w', hx.drew, a, ha, by omega, by omega, strB (A.getD i []), fun w' h' => ?_, b, hb, by omega, by omega, strB (B.getD i []), fun w' h' => ?_, ?_⟩
    · obtain ⟨a', ha', hc⟩ := (hp.ext h').get hlt
      rw [ha] at ha'; cases ha'
      rw [Int.toNat_natCast]; exact hc
    · obtain ⟨b', hb', hc⟩ := (hq.ext h').get (n := i) (by omega)
      rw [hb] at hb'; cases hb'
      rw [Int.toNat_natCast]; exact hc
    · rw [strB_toList, strB_toList, hgA, hgB]
      by_cases heq : A[i] = B[i]'(by omega)
      · rw [heq]
        refine no (by simp) ⟨⟨hx.drew, i + 1, ?_, by omega, ?_⟩, ?_⟩
        · rw [wrap64 _ (by omega) (by omega)]; rfl
        · rw [List.take_add_one, List.take_add_one, hs, List.getElem?_eq_getElem hlt, List.getElem?_eq_getElem (show i < B.length by omega), heq]
        · show ((A.length : Int) - IntKind.i64.wrap ((i : Int) + 1)).toNat < ((A.length : Int) - (i : Int)).toNat
          rw [wrap64 _ (by omega) (by omega)]; omega
      · refine yes (by simpa using heq) ⟨?_, hx.drew⟩
        rw [decide_eq_false]
        intro e
        subst e
        exact heq rfl
  · have hie : i = A.length := by omega
    subst hie
    rw [List.take_length, he, List.take_length] at hs
    exact ⟨by rw [decide_eq_true hs], hx⟩
/-- twelve bytes of a text -/
def sq1 (x : Txt) : Txt := (List.range 12).map fun k => x.getD k 0
def sqL (L : List Txt) (n : Nat) : List Txt := (List.range n).map fun i => sq1 (L.getD i [])
theorem sq1_len (x : Txt) : (sq1 x).length = 12 := by simp [sq1]
theorem sqL_len (L : List Txt) (n : Nat) : (sqL L n).length = n := by simp [sqL]
theorem sqL_get (L : List Txt) {n i : Nat} (h : i < n) : (sqL L n).getD i [] = sq1 (L.getD i []) := by simp [sqL, List.getD, h]
theorem sqL_short (L : List Txt) (n : Nat) : Short (sqL L n) := fun x hx => by
  obtain ⟨i, _, rfl⟩ := List.mem_map.1 hx
  rw [sq1_len]; omega
theorem range_take_map {α : Type} (f : Nat → α) (n i : Nat) (h : i < n) : ((List.range n).map f).take i ++ [f i] = ((List.range n).map f).take (i + 1) := by
  rw [List.take_add_one]
  simp [h]
theorem square_spec {L : List Txt} {n : Nat} (hn : n ≤ 1000) {p : Option Addr} {c : Nat} {w0 w : World} {Γ : List A} (hl : L.length ≤ 1000000) (hS : Short L) (hp : strsL w0 p L) (hT : T [] w0 w Γ) :
    Calls Tryz.prog 9 #[.slice p L.length c, .int .i64 (n : Int)] w fun e w' => ∃ g cap, e = .returned (.slice (ptr g) n cap) ∧ T [] w0 w' (rowP 9 1 g n cap (txts (sqL L n)) :: Γ) := by
  refine (revetmentlaw06_square_calls (R := fun v w' => ∃ g cap, v = .slice (ptr g) n cap ∧ T [] w0 w' (rowP 9 1 g n cap (txts (sqL L n)) :: Γ)) ?_).mono fun e w' ⟨v, he, g, cap, hv, h⟩ => ⟨g, cap, by rw [he, hv], h⟩
  unfold revetmentlaw06_square
  refine Alloc.t hT fun k11 w1 h1 => ?_
  have h1 : T [] w0 w1 (rowP 9 1 (some k11) 0 0 (txts ((sqL L n).take 0)) :: Γ) := blk_row h1 rfl rfl (by decide)
  refine ⟨fun vs w' => ∃ (i : Nat) (g : Option Nat) (cap : Nat), vs = [.slice (ptr g) i cap, .int .i64 (i : Int)] ∧ i ≤ n ∧ T [] w0 w' (rowP 9 1 g i cap (txts ((sqL L n).take i)) :: Γ), fun vs _ => match vs with | [_, .int _ i] => (n - i).toNat | _ => 0, ⟨0, some k11, 0, rfl, by omega, h1⟩, ?_⟩
  rintro vs w2 ⟨i, g, cap, rfl, hi, h2⟩
  refine ⟨_, _, _, _, rfl, dec_t fun hlt => ?_, dec_f fun hge => ?_⟩
  · have hlt : i < n := by omega
    refine Join.intro fun J hJ => ?_
    have main : J [.string (strB (L.getD i []))] w2 := by
      refine hJ _ _ ⟨_, rfl, Alloc.t h2 fun k25 w4 h4 => ?_⟩
      generalize hx : L.getD i [] = x
      have hxl : x.length ≤ 1000000 := by rw [← hx]; exact hS.get i
      have h4 : T [] w0 w4 (rowP 5 1 (some k25) 0 0 (bvals ((sq1 x).take 0)) :: rowP 9 1 g i cap (txts ((sqL L n).take i)) :: Γ) := blk_row h4 rfl rfl (by decide)
      refine ⟨fun vs w' => ∃ (k : Nat) (g' : Option Nat) (cap' : Nat), vs = [.slice (ptr g') k cap', .int .i64 (k : Int)] ∧ k ≤ 12 ∧ T [] w0 w' (rowP 5 1 g' k cap' (bvals ((sq1 x).take k)) :: rowP 9 1 g i cap (txts ((sqL L n).take i)) :: Γ), fun vs _ => match vs with | [_, .int _ k] => (12 - k).toNat | _ => 0, ⟨0, some k25, 0, rfl, by omega, h4⟩, ?_⟩
      rintro vs w5 ⟨k, g', cap', rfl, hk, h5⟩
      refine ⟨_, _, _, _, rfl, dec_t fun hkl => ?_, dec_f fun hkg => ?_⟩
      · have hkl : k < 12 := by omega
        refine Join.intro fun J1 hJ1 => ?_
        have put : J1 [.int .u8 ((x.getD k 0).toNat : Int)] w5 := by
          refine hJ1 _ _ ⟨_, rfl, ?_⟩
          refine push1_t (i := Tryz.t5) (z := .int .u8 0) (by kernel_rfl) (by kernel_rfl) (by kernel_rfl) (by kernel_rfl) (by kernel_rfl) (by kernel_rfl) h5 .head rfl (by omega) fun g2 cap2 w8 h8 => ⟨⟨k + 1, g2, cap2, ?_, by omega, ?_⟩, ?_⟩
          · rw [wrap64 _ (by omega) (by omega)]; rfl
          · have : bvals ((sq1 x).take k) ++ [.int .u8 ((x.getD k 0).toNat : Int)] = bvals ((sq1 x).take (k + 1)) := by
              unfold sq1
              rw [← range_take_map (fun k => x.getD k 0) 12 k hkl, ← bvals_append]; rfl
            rw [this] at h8
            exact h8
          · show ((12 : Int) - IntKind.i64.wrap ((k : Int) + 1)).toNat < ((12 : Int) - (k : Int)).toNat
            rw [wrap64 _ (by omega) (by omega)]; omega
        refine ⟨dec_t fun hkx => ?_, dec_f fun hkx => ?_⟩
        · rw [strB_size] at hkx
          have hix := index_str (P := Tryz.prog) (t := 9) (k := .i64) (n := (k : Int)) (s := strB x) (w := w5) (by kernel_rfl) (by omega) (by rw [strB_size]; omega)
          rw [Int.toNat_natCast] at hix
          exact ⟨_, w5, hix, put⟩
        · rw [strB_size] at hkx
          have : x.getD k 0 = 0 := by simp [List.getD, List.getElem?_eq_none (show x.length ≤ k by omega)]
          rw [this] at put
          exact put
      · have hke : k = 12 := by omega
        subst hke
        rw [List.take_of_length_le (by rw [sq1_len]; omega)] at h5
        refine ⟨_, w5, row_string h5 List.mem_cons_self, ?_⟩
        refine push1_t (i := Tryz.t9) (z := .string (ByteArray.mk #[])) (by kernel_rfl) (by kernel_rfl) (by kernel_rfl) (by kernel_rfl) (by kernel_rfl) (by kernel_rfl) h5 (.tail .head) rfl (by omega) fun g2 cap2 w8 h8 => ⟨⟨i + 1, g2, cap2, ?_, by omega, ?_⟩, ?_⟩
        · rw [wrap64 _ (by omega) (by omega)]; rfl
        · have : txts ((sqL L n).take i) ++ [.string (strB (sq1 x))] = txts ((sqL L n).take (i + 1)) := by
            unfold sqL txts
            rw [← range_take_map (fun i => sq1 (L.getD i [])) n i hlt, List.map_append, hx]; rfl
          rw [this] at h8
          exact T.dropAt h8 (.tail .head)
        · show ((n : Int) - IntKind.i64.wrap ((i : Int) + 1)).toNat < ((n : Int) - (i : Int)).toNat
          rw [wrap64 _ (by omega) (by omega)]; omega
    refine ⟨dec_t fun h => ?_, dec_f fun h => ?_⟩
    · obtain ⟨a, ha, hc⟩ := (hp.ext h2.chg.ext).get (n := i) (by omega)
      exact ⟨a, ha, by omega, by omega, _, by rw [Int.toNat_natCast]; exact hc, main⟩
    · have : L.getD i [] = [] := by simp [List.getD, List.getElem?_eq_none (show L.length ≤ i by omega)]
      rw [this] at main
      exact main
  · have hie : i = n := by omega
    subst hie
    rw [List.take_of_length_le (by rw [sqL_len]; omega)] at h2
    exact ⟨g, cap, rfl, h2⟩
theorem sqL_ok {L : List Txt} {n : Nat} (h4 : 4 ≤ n) (h10 : n ≤ 10) {lost : List Int} (hr : ∀ x ∈ lost, 0 ≤ x ∧ x < (n : Int)) (hn : lost.Nodup) : OkM (sqL L n) lost :=
  ⟨by rw [sqL_len]; exact h4, by rw [sqL_len]; exact h10, by rw [sqL_len]; exact hr, hn, 12, by omega, fun j hj _ => by rw [sqL_len] at hj; rw [sqL_get L hj, sq1_len]⟩
theorem srt_two {a b : Int} (h : a < b) : srt [a, b] = [a, b] ∧ srt [b, a] = [a, b] := by
  have key : ∀ l : List Int, l.length = 2 → (∀ x, x ∈ l ↔ (x = a ∨ x = b)) → srt l = [a, b] := by
    intro l hl hm
    have hlen := srt_len l
    have hs : (srt l).Pairwise fun x y => decide (x ≤ y) = true := List.pairwise_mergeSort (fun x y z h1 h2 => by simp at *; omega) (fun x y => by simp; omega) l
    match hq : srt l, (by rw [hlen, hl] : (srt l).length = 2) with
    | [x, y], _ =>
      rw [hq] at hs
      have hxy : x ≤ y := by simpa using hs
      have ha : a ∈ [x, y] := by rw [← hq, srt_mem, hm]; exact .inl rfl
      have hb : b ∈ [x, y] := by rw [← hq, srt_mem, hm]; exact .inr rfl
      simp only [List.mem_cons, List.not_mem_nil, or_false] at ha hb
      have : x = a ∧ y = b := by omega
      rw [this.1, this.2]
  exact ⟨key _ rfl fun x => by simp, key _ rfl fun x => by simp [or_comm]⟩
theorem shown_pure : fillS [[], [], [0], [3]] [0, 1] = [[1], [1], [0], [3]] := by decide +kernel
theorem shown_spec (w : World) : Ret Tryz.prog 8 #[] w (.bool true) := by
  refine ret_of (revetmentlaw06_shown_calls ?_)
  unfold revetmentlaw06_shown
  refine Alloc.t (T.nil w) fun k4 w1 h1 => Alloc.t h1 fun k5 w2 h2 => ?_
  have h3 : T [] w w2 (rowP 3 1 (some k5) 2 2 (intsI [0, 1]) :: [blk k4 #[.string (ByteArray.mk #[]), .string (ByteArray.mk #[]), .string (ByteArray.mk #[0]), .string (ByteArray.mk #[3])] 9]) := blk_row h2 rfl rfl (by decide)
  have h4 : T [] w w2 (rowP 9 1 (some k4) 4 4 (txts [[], [], [0], [3]]) :: [rowP 3 1 (some k5) 2 2 (intsI [0, 1])]) := blk_row (h3.swap (.swap _ _ _)) rfl rfl (by decide)
  have hp := (T.strs h4 List.mem_cons_self).1
  have hq := (T.ints h4 (by repeat (first | exact List.Mem.head _ | refine List.Mem.tail _ ?_))).1
  have hS : Short [[], [], [(0 : UInt8)], [3]] := fun x hx => by
    simp at hx
    rcases hx with rfl | rfl | rfl <;> simp
  have hok : OkM [[], [], [(0 : UInt8)], [3]] [0, 1] := ⟨by decide, by decide, by decide, by decide, 1, by decide, fun j hj hn => by
    match j, hj with
    | 0, _ => exact absurd (by decide) hn
    | 1, _ => exact absurd (by decide) hn
    | 2, _ => rfl
    | 3, _ => rfl⟩
  refine (fill_spec (L := [[], [], [0], [3]]) (lost := [0, 1]) (by decide) (by decide) hS (c := 4) (d := 2) hp hq).mono fun e w3 hr => ?_
  rcases hr with ⟨_, _, b, cap, he, h5⟩ | ⟨n, hn0, he, hx, h60, _⟩
  · refine ⟨_, _, _, _, he, yes rfl (Alloc.t h5 fun k13 w4 h6 => ?_)⟩
    have hf : fillF [[], [], [0], [3]] [0, 1] = [[1], [1], [0], [3]] := by
      unfold fillF; rw [(srt_two (by decide)).1]; exact shown_pure
    rw [hf] at h6
    have h7 : T [] w2 w4 (rowP 9 1 (some k13) 4 4 (txts [[1], [1], [0], [3]]) :: [rowP 9 1 (some b) 4 cap (txts [[1], [1], [0], [3]])]) := blk_row h6 rfl rfl (by decide)
    refine (same_spec (A := [[1], [1], [0], [3]]) (B := [[1], [1], [0], [3]]) (c := cap) (d := 4) (by decide) (T.strs h7 (g := some b) (by repeat (first | exact List.Mem.head _ | refine List.Mem.tail _ ?_))).1 (T.strs h7 List.mem_cons_self).1).mono fun e w5 ⟨he, hx⟩ => ⟨_, he, by rw [decide_eq_true rfl], (h2.chg.ext.trans h7.chg.ext).trans hx⟩
  · exact absurd (h60 hok).1 (by decide)
theorem shown_end {w w1 : World} (hx : Ext w w1) : Calls Tryz.prog 8 #[] w1 fun e w2 => ∃ b : Bool, e = .returned (.bool b) ∧ RetR w (.bool true) (.bool b) w2 :=
  (shown_spec w1).mono fun e w2 ⟨he, hx2⟩ => ⟨true, he, rfl, hx.trans hx2⟩
/-- texts, as lists of bytes -/
def bls (l : List ByteArray) : List Txt := l.map fun s => s.data.toList
theorem bls_len (l : List ByteArray) : (bls l).length = l.length := List.length_map ..
theorem bls_strs {w : World} {p : Option Addr} {l : List ByteArray} (h : strsAt w p l) : strsL w p (bls l) := by
  unfold strsL bls
  rw [List.map_map]
  have : (strB ∘ fun s : ByteArray => s.data.toList) = id := by funext s; exact strB_list s
  rw [this, List.map_id]
  exact h
/-- how many columns -/
def colsN (m : Int) : Nat := 4 + (m % 7).toNat
theorem cols_eq {m : Int} (h : 0 ≤ m ∧ m < 256) : IntKind.i64.wrap (4 + Int.tmod (IntKind.i64.wrap m) 7) = ((colsN m : Nat) : Int) ∧ 4 ≤ colsN m ∧ colsN m ≤ 10 := by
  unfold colsN
  rw [wrap64 m (by omega) (by omega), Int.tmod_eq_emod_of_nonneg h.1, wrap64 _ (by omega) (by omega)]
  omega
theorem pick_eq {x : Int} {n : Nat} (h : 0 ≤ x ∧ x < 256) : Int.tmod (IntKind.i64.wrap x) (n : Int) = ((x.toNat % n : Nat) : Int) := by
  rw [wrap64 x (by omega) (by omega), Int.tmod_eq_emod_of_nonneg h.1]
  push_cast
  rw [Int.toNat_of_nonneg h.1]
end Go.Proofs.YtignilchdffafaaGreat
