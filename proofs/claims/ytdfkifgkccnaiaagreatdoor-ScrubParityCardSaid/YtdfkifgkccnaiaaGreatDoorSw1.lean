import Derived.Test.YtdfkifgkccnaiaaGreatDoorSc4
/-! law18: heavy, square, shown; ScrubGood, ScrubOne. -/
namespace Go.Proofs.YtdfkifgkccnaiaaGreatDoor
open Go.Sh Go.RowKit
set_option linter.unusedVariables false
set_option linter.unusedSimpArgs false
set_option maxRecDepth 20000
set_option maxHeartbeats 2000000
def heavyS (L : List Txt) : Bool := decide (20 < L.length) || L.any fun x => decide (100 < x.length)
theorem heavyS_spec {L : List Txt} {p : Option Addr} {c : Nat} {w : World} (h : strsL w p L) : Ret Tryz.prog 8 #[.slice p L.length c] w (.bool (heavyS L)) := by
  refine ret_of (revetmentlaw18_heavy_calls ?_)
  unfold revetmentlaw18_heavy
  refine ⟨dec_t fun h1 => ⟨?_, Ext.refl w⟩, dec_f fun h1 => ?_⟩
  · unfold heavyS; rw [decide_eq_true (by omega)]; rfl
  refine ⟨fun vs w' => w' = w ∧ ∃ i : Nat, vs = [.int .i64 (i : Int)] ∧ i ≤ L.length ∧ (L.take i).any (fun x => decide (100 < x.length)) = false, fun vs _ => match vs with | [.int _ i] => (L.length - i).toNat | _ => 0, ⟨rfl, 0, rfl, by omega, rfl⟩, ?_⟩
  rintro vs w1 ⟨rfl, i, rfl, hi, hs⟩
  refine ⟨_, rfl, dec_t fun hlt => ?_, dec_f fun hge => ?_⟩
  · have hlt : i < L.length := by omega
    obtain ⟨a, ha, hc⟩ := h.get hlt
    have hg : L.getD i [] = L[i] := by simp [List.getD, hlt]
    refine ⟨a, ha, by omega, by omega, _, by rw [Int.toNat_natCast]; exact hc, ?_⟩
    rw [strB_size, hg]
    refine ⟨dec_t fun hb => ⟨?_, Ext.refl _⟩, dec_f fun hb => ⟨⟨rfl, i + 1, ?_, by omega, ?_⟩, ?_⟩⟩
    · have : L.any (fun x => decide (100 < x.length)) = true := List.any_eq_true.2 ⟨L[i], List.getElem_mem hlt, decide_eq_true (by omega)⟩
      unfold heavyS; rw [this, Bool.or_true]
    · rw [wrap64 _ (by omega) (by omega)]; rfl
    · rw [List.take_add_one, List.getElem?_eq_getElem hlt, List.any_append, hs]
      simp; omega
    · show ((L.length : Int) - IntKind.i64.wrap ((i : Int) + 1)).toNat < ((L.length : Int) - (i : Int)).toNat
      rw [wrap64 _ (by omega) (by omega)]; omega
  · have hie : i = L.length := by omega
    subst hie
    rw [List.take_length] at hs
    refine ⟨?_, Ext.refl _⟩
    unfold heavyS
    rw [hs, decide_eq_false (by omega)]; rfl
theorem heavyS_short {L : List Txt} (h : heavyS L = false) : L.length ≤ 20 ∧ Short L := by
  unfold heavyS at h
  simp only [Bool.or_eq_false_iff, decide_eq_false_iff_not, List.any_eq_false, Bool.not_eq_true] at h
  exact ⟨by omega, fun x hx => by have := h.2 x hx; omega⟩
/-- eight bytes of a text -/
def sq8 (x : Txt) : Txt := (x ++ List.replicate 8 0).take 8
def sqS (L : List Txt) (n : Nat) : List Txt := (List.range n).map fun i => sq8 (L.getD i [])
theorem sq8_len (x : Txt) : (sq8 x).length = 8 := by simp [sq8]
theorem sqS_len (L : List Txt) (n : Nat) : (sqS L n).length = n := by simp [sqS]
theorem sqS_get (L : List Txt) {n i : Nat} (h : i < n) : (sqS L n).getD i [] = sq8 (L.getD i []) := by simp [sqS, List.getD, h]
theorem sqS_all (L : List Txt) (n : Nat) : AllLen (sqS L n) 8 := fun j hj => by rw [sqS_len] at hj; rw [sqS_get L hj, sq8_len]
theorem all_short {L : List Txt} {m : Nat} (h : AllLen L m) (hm : m ≤ 1000000) : Short L := fun x hx => by
  obtain ⟨j, hj, rfl⟩ := List.getElem_of_mem hx
  have := h j hj
  simp [List.getD, hj] at this
  omega
theorem squareS_spec {L : List Txt} {n : Nat} (hn : n ≤ 1000) {p : Option Addr} {c : Nat} {w0 w : World} {Γ : List A} (hl : L.length ≤ 1000000) (hS : Short L) (hp : strsL w0 p L) (hT : T [] w0 w Γ) :
    Calls Tryz.prog 11 #[.slice p L.length c, .int .i64 (n : Int)] w fun e w' => ∃ g cap, e = .returned (.slice (ptr g) n cap) ∧ T [] w0 w' (rowP 9 1 g n cap (txts (sqS L n)) :: Γ) := by
  refine (revetmentlaw18_square_calls (R := fun v w' => ∃ g cap, v = .slice (ptr g) n cap ∧ T [] w0 w' (rowP 9 1 g n cap (txts (sqS L n)) :: Γ)) ?_).mono fun e w' ⟨v, he, g, cap, hv, h⟩ => ⟨g, cap, by rw [he, hv], h⟩
  unfold revetmentlaw18_square
  refine Alloc.t hT fun k11 w1 h1 => ?_
  have h1 : T [] w0 w1 (rowP 9 1 (some k11) 0 0 (txts ((sqS L n).take 0)) :: Γ) := blk_row h1 rfl rfl (by decide)
  refine ⟨fun vs w' => ∃ (i : Nat) (g : Option Nat) (cap : Nat), vs = [.slice (ptr g) i cap, .int .i64 (i : Int)] ∧ i ≤ n ∧ T [] w0 w' (rowP 9 1 g i cap (txts ((sqS L n).take i)) :: Γ), fun vs _ => match vs with | [_, .int _ i] => (n - i).toNat | _ => 0, ⟨0, some k11, 0, rfl, by omega, h1⟩, ?_⟩
  rintro vs w2 ⟨i, g, cap, rfl, hi, h2⟩
  refine ⟨_, _, _, _, rfl, dec_t fun hlt => ?_, dec_f fun hge => ?_⟩
  · have hlt : i < n := by omega
    refine Join.intro fun J hJ => ?_
    have e8 : (ByteArray.mk #[0, 0, 0, 0, 0, 0, 0, 0]) = strB (List.replicate 8 0) := rfl
    rw [e8]
    have main : J [.string (strB (L.getD i [] ++ List.replicate 8 0))] w2 := by
      refine hJ _ _ ⟨_, rfl, ?_⟩
      have hsl := slice_to (P := Tryz.prog) (t := 9) (k := .i64) (s := strB (L.getD i [] ++ List.replicate 8 0)) (hi := 8) (w := w2) (by kernel_rfl) (by omega) (by rw [strB_size]; simp; omega)
      rw [strB_extract, List.drop_zero] at hsl
      refine ⟨strB (sq8 (L.getD i [])), w2, hsl, ?_⟩
      refine push1_t (i := Tryz.t9) (z := .string (ByteArray.mk #[])) (by kernel_rfl) (by kernel_rfl) (by kernel_rfl) (by kernel_rfl) (by kernel_rfl) (by kernel_rfl) h2 .head rfl (by omega) fun g2 cap2 w8 h8 => ⟨⟨i + 1, g2, cap2, ?_, by omega, ?_⟩, ?_⟩
      · rw [wrap64 _ (by omega) (by omega)]; rfl
      · have : txts ((sqS L n).take i) ++ [.string (strB (sq8 (L.getD i [])))] = txts ((sqS L n).take (i + 1)) := by
          unfold sqS txts
          rw [← range_take_map (fun i => sq8 (L.getD i [])) n i hlt, List.map_append]; rfl
        rw [this] at h8
        exact h8
      · show ((n : Int) - IntKind.i64.wrap ((i : Int) + 1)).toNat < ((n : Int) - (i : Int)).toNat
        rw [wrap64 _ (by omega) (by omega)]; omega
    refine ⟨dec_t fun h => ?_, dec_f fun h => ?_⟩
    · obtain ⟨a, ha, hc⟩ := (hp.ext h2.chg.ext).get (n := i) (by omega)
      refine ⟨a, ha, by omega, by omega, _, by rw [Int.toNat_natCast]; exact hc, ?_, ?_⟩
      · rw [strB_size, strB_size]
        have := hS.get i
        rw [List.length_replicate]; omega
      · rw [strB_append]; exact main
    · have : L.getD i [] = [] := by simp [List.getD, List.getElem?_eq_none (show L.length ≤ i by omega)]
      rw [this, List.nil_append] at main
      exact main
  · have hie : i = n := by omega
    subst hie
    rw [List.take_of_length_le (by rw [sqS_len]; omega)] at h2
    exact ⟨g, cap, rfl, h2⟩
theorem shownS_pure : judV [[1], [2], [0], [3]] = (1, 1) := by decide +kernel
theorem shownS_spec (w : World) : Ret Tryz.prog 9 #[] w (.bool true) := by
  refine ret_of (revetmentlaw18_shown_calls ?_)
  unfold revetmentlaw18_shown
  refine Alloc.t (T.nil w) fun k5 w1 h1 => ?_
  have h1 : T [] w w1 [rowP 9 1 (some k5) 4 4 (txts [[1], [2], [0], [3]])] := blk_row h1 rfl rfl (by decide)
  have hA : AllLen [[1], [2], [0], [3]] 1 := fun j hj => by
    match j, hj with
    | 0, _ => rfl
    | 1, _ => rfl
    | 2, _ => rfl
    | 3, _ => rfl
  have hk := ok_all (L := [[1], [2], [0], [3]]) (by decide) (by decide) hA (by decide)
  refine (judge_spec (L := [[1], [2], [0], [3]]) (all_short hA (by decide)) (by decide) (c0 := 4) (by decide) (T.rowS h1 List.mem_cons_self).1).mono fun e w2 ⟨hx, h⟩ => ?_
  rcases h with ⟨_, he⟩ | ⟨hno, _⟩
  · rw [shownS_pure] at he
    exact ⟨_, _, _, he, yes rfl (yes rfl ⟨rfl, h1.chg.ext.trans hx⟩)⟩
  · exact absurd hk hno
theorem shownS_end {w w1 : World} (hx : Ext w w1) : Calls Tryz.prog 9 #[] w1 fun e w2 => ∃ b : Bool, e = .returned (.bool b) ∧ RetR w (.bool true) (.bool b) w2 :=
  (shownS_spec w1).mono fun e w2 ⟨he, hx2⟩ => ⟨true, he, rfl, hx.trans hx2⟩
/-- what Repair makes of a row of columns of 8 bytes -/
theorem rep_all {R : List Txt} (n4 : 4 ≤ R.length) (n10 : R.length ≤ 10) (h : AllLen R 8) : ((repF R).2.2 = 5 ↔ (judV R).1 = 2) ∧ (((repF R).2.2 = 0 ∧ GoodL (repF R).1 8 ∧ (repF R).1.length = R.length) ∨ ((repF R).2.2 = 5 ∧ (repF R).1 = [])) := by
  have hk := ok_all n4 n10 h (by decide)
  rcases judPQ_cases (synP R) (synQ R) (R.length - 2) with hj | ⟨i, hi, hj⟩ | hj
  · have hj : judV R = (0, 0) := hj
    have hg := GoodL.of_zero n4 n10 h (by rw [hj])
    rw [hg.rep (by decide), hj]
    exact ⟨by simp, .inl ⟨rfl, hg, rfl⟩⟩
  · have hj : judV R = (1, (i : Int)) := hj
    obtain ⟨h1, h2, h3⟩ := rep_one n4 n10 h (by decide) hj
    rw [h1, hj]
    exact ⟨by simp, .inl ⟨rfl, h2, h3⟩⟩
  · have hj : judV R = (2, 0) := hj
    have : repF R = ([], 0, 5) := by unfold repF; rw [if_pos hk, hj]; rfl
    rw [this, hj]
    exact ⟨by simp, .inr ⟨rfl, rfl⟩⟩
theorem goodS_law {l : List ByteArray} {p : Option Addr} {c : Nat} {w : World} (H : strsAt w p l) {m : Int} (hm : 0 ≤ m ∧ m < 256) :
    Ret Tryz.prog 6 #[.slice p l.length c, .int .u8 m] w (.bool true) := by
  refine ret_of (revetmentlaw18_ScrubGood_calls ?_)
  unfold revetmentlaw18_ScrubGood
  have hL := bls_strs H
  rw [← bls_len l]
  generalize bls l = L at hL
  refine (heavyS_spec hL).mono fun e w1 ⟨he, hx1⟩ => ⟨_, he, fun hh => shownS_end hx1, fun hh => ?_⟩
  obtain ⟨h20, hS⟩ := heavyS_short hh
  obtain ⟨en, n4, n10⟩ := cols_eq hm
  rw [en]
  generalize colsN m = n at n4 n10
  refine (shownS_spec w1).mono fun e w3 ⟨he, hx3⟩ => ⟨_, he, no rfl ?_⟩
  refine (squareS_spec (n := n) (by omega) (by omega) hS hL ((T.nil w).quiet (hx1.trans hx3))).mono fun e w5 ⟨g, cr, he, h5⟩ => ⟨_, _, _, he, ?_⟩
  have hR8 := sqS_all L n
  have hsl : (sqS L n).length = n := sqS_len L n
  generalize sqS L n = R at h5 hR8 hsl
  have l5 := T.strs h5 (L := R) List.mem_cons_self
  have hRS := all_short hR8 (by decide)
  have hRk := ok_all (L := R) (by omega) (by omega) hR8 (by decide)
  obtain ⟨r1, r2⟩ := rep_all (R := R) (by omega) (by omega) hR8
  have f1 := judge_spec (L := R) hRS (by omega) (c0 := cr) (by have := l5.2.2; omega) l5.1
  rw [hsl] at f1
  refine f1.mono fun e w6 ⟨hx6, h⟩ => ?_
  have he := (h.resolve_right fun h => h.1 hRk).2
  refine ⟨_, _, _, he, ?_⟩
  have f2 := repair_spec (L := R) hRS (by omega) (c0 := cr) (by have := l5.2.2; omega) (l5.1.ext hx6)
  rw [hsl] at f2
  refine f2.mono fun e w7 ⟨p38, c38, he, s38, k38, hx7⟩ => ⟨_, _, _, _, _, he, ?_⟩
  have f3 := parity_spec (L := R) hRS (by omega) (c0 := cr) (by have := l5.2.2; omega) (l5.1.ext (hx6.trans hx7))
  rw [hsl] at f3
  refine f3.mono fun e w8 ⟨p44, c44, he, s44, k44, hx8⟩ => ⟨_, _, _, _, he, no rfl ?_⟩
  have hpg : parG R = (makeF (R.take (n - 2)), 0) := by unfold parG; rw [if_pos hRk, hsl]
  have hmg : GoodL (makeF (R.take (n - 2))) 8 := make_good (fun j hj => by rw [List.length_take] at hj; rw [take_get _ _ _ (by omega)]; exact hR8 j (by omega)) (by rw [List.length_take]; omega) (by rw [List.length_take]; omega)
  rw [hpg] at s44 k44 ⊢
  refine no rfl ?_
  refine (goodR_spec (all_short hmg.all (by decide)) (by have := hmg.n4; omega) (by have := hmg.n10; omega) (c := c44) k44 s44).mono fun e w9 ⟨he, hx9⟩ => ⟨_, he, no (by rw [hmg.goodF]; rfl) ?_⟩
  have x9 := (hx6.trans hx7).trans (hx8.trans hx9)
  have f4 := goodR_spec (L := R) hRS (by omega) (by omega) (c := cr) (by have := l5.2.2; omega) (l5.1.ext x9)
  rw [hsl] at f4
  refine f4.mono fun e w10 ⟨he, hx10⟩ => ⟨_, he, no ?_ (no ?_ ?_)⟩
  · rw [← goodF_judV]
    by_cases h : (judV R).1 = 0
    · rw [h]; rfl
    · rw [decide_eq_false h]
      have : ((judV R).1 == 0) = false := by simpa using h
      rw [this]; rfl
  · by_cases h : (judV R).1 = 2
    · rw [r1.2 h, h]; rfl
    · have e1 : ((judV R).1 == 2) = false := by simpa using h
      have e2 : ((repF R).2.2 == 5) = false := by simpa using fun h' => h (r1.1 h')
      rw [e1, e2]; rfl
  have x10 := h5.chg.ext.trans (x9.trans hx10)
  have x710 : Ext w7 w10 := (hx8.trans hx9).trans hx10
  rcases r2 with ⟨e0, hg, hgl⟩ | ⟨e5, hnil⟩
  · rw [e0]
    refine no rfl ?_
    have hGS := all_short hg.all (by decide)
    have hgr := hg.rep (by decide)
    have g4 := hg.n4
    have g10 := hg.n10
    generalize (repF R).1 = G at s38 k38 hg hgl hGS hgr g4 g10
    refine (repair_spec (L := G) hGS (by omega) (c0 := c38) k38 (s38.ext x710)).mono fun e w11 ⟨p79, c79, he, s79, k79, hx11⟩ => ?_
    rw [hgr] at he s79 k79
    refine ⟨_, _, _, _, _, he, ?_⟩
    refine (goodR_spec (L := G) hGS (by omega) (by omega) (c := c38) k38 (s38.ext (x710.trans hx11))).mono fun e w12 ⟨he, hx12⟩ => ⟨_, he, yes hg.goodF (yes rfl (yes rfl ?_))⟩
    refine (same_spec (A := G) (B := G) (c := c79) (d := c38) (by omega) (s79.ext hx12) (s38.ext ((x710.trans hx11).trans hx12))).mono fun e w13 ⟨he, hx13⟩ => ⟨_, he, by rw [decide_eq_true rfl], ((x10.trans hx11).trans hx12).trans hx13⟩
  · rw [e5]
    refine yes rfl ⟨?_, x10⟩
    rw [hnil]; rfl
theorem d_cols {m : Int} (hm : 0 ≤ m ∧ m < 256) : ∃ d : Nat, IntKind.i64.wrap (2 + Int.tmod (IntKind.i64.wrap m) 7) = ((d : Nat) : Int) ∧ 2 ≤ d ∧ d ≤ 8 := by
  refine ⟨2 + (m % 7).toNat, ?_, by omega, by omega⟩
  rw [wrap64 m (by omega) (by omega), Int.tmod_eq_emod_of_nonneg hm.1, wrap64 _ (by omega) (by omega)]
  omega
theorem copy_row {F : List Nat} {w0 w : World} {Γ : List A} {k b n c1 : Nat} {G : List Txt} (hT : T F w0 w (rowP 9 1 (some k) 0 0 [] :: Γ)) (hm : rowP 9 1 (some b) n c1 (txts G) ∈ Γ) (hgl : G.length = n) (h0 : 0 < n) (hn : n ≤ 1000) :
    ∃ bo cap' w', (builtin .append #[22, 22] 22 #[false, false] #[.slice (some ⟨k, 0, none⟩) 0 0, .slice (some ⟨b, 0, none⟩) n c1]).run Tryz.prog w = .ok (.value (.slice (some ⟨bo, 0, none⟩) n cap')) w' ∧ T F w0 w' (rowP 9 1 (some bo) n cap' (txts G) :: Γ) := by
  obtain ⟨g', cap', w', hr, h⟩ := append_t (P := Tryz.prog) (t := 22) (ty := 22) (e := 9) (i := Tryz.t9) (z := .string (ByteArray.mk #[])) (size := 1) #[false, false] (by kernel_rfl) (by kernel_rfl) (by kernel_rfl) (by kernel_rfl) (by rfl)
    hT .head (a := ⟨b, 0, none⟩) (m := n) (c := c1) (news := txts G) (by rw [txts_len, hgl, Nat.mul_one]) (fun j u hu => by
      rw [addr_add, Nat.zero_add]
      exact rowP.cell (hT.says (List.mem_cons_of_mem _ hm)) hu) (fun u hu => by
      obtain ⟨x, _, rfl⟩ := List.mem_map.1 hu
      rfl) (by simp only [maxLen]; omega) (by
      have : (Tryz.t9).bytes = 16 := by kernel_rfl
      rw [this]; omega)
  rw [Nat.zero_add] at hr
  rw [Nat.zero_add, List.nil_append] at h
  obtain ⟨bo, rfl⟩ : ∃ b, g' = some b := rowP.pos (h.says List.mem_cons_self) h0
  exact ⟨bo, cap', w', hr, h⟩
theorem set_same {G : List Txt} {i : Nat} : G.set i (G.getD i []) = G := by
  by_cases hi : i < G.length
  · have : G.getD i [] = G[i] := by simp [List.getD, hi]
    rw [this, List.set_getElem_self]
  · rw [List.set_eq_of_length_le (by omega)]
theorem one_rep {G : List Txt} (h : GoodL G 8) {i : Nat} (hi : i < G.length) {x : Txt} (hx : x.length = 8) : ∃ κ : Int, repF (G.set i x) = (G, κ, 0) ∧ (x = G.getD i [] → κ = -1) ∧ (x ≠ G.getD i [] → κ = (i : Int)) := by
  by_cases e : x = G.getD i []
  · refine ⟨-1, ?_, fun _ => rfl, fun hne => absurd e hne⟩
    rw [e, set_same]; exact h.rep (by decide)
  · exact ⟨(i : Int), lie_rep h (by decide) hi hx e, fun h' => absurd h' e, fun _ => rfl⟩
theorem oneS_law {l : List ByteArray} {p : Option Addr} {c : Nat} {w : World} (H : strsAt w p l) {m a : Int} (hm : 0 ≤ m ∧ m < 256) (ha : 0 ≤ a ∧ a < 256) (s : ByteArray) :
    Ret Tryz.prog 3 #[.slice p l.length c, .int .u8 m, .int .u8 a, .string s] w (.bool true) := by
  refine ret_of (revetmentlaw18_ScrubOne_calls ?_)
  unfold revetmentlaw18_ScrubOne
  have hL := bls_strs H
  rw [← bls_len l]
  generalize bls l = L at hL
  refine (heavyS_spec hL).mono fun e w1 ⟨he, hx1⟩ => ⟨_, he, fun hh => shownS_end hx1, fun hh => ⟨dec_t fun _ => shownS_end hx1, dec_f fun hs1 => ?_⟩⟩
  obtain ⟨h20, hS⟩ := heavyS_short hh
  refine (shownS_spec w1).mono fun e w4 ⟨he, hx4⟩ => ⟨_, he, no rfl ?_⟩
  obtain ⟨d, en, d2, d8⟩ := d_cols hm
  simp only [en]
  refine (squareS_spec (n := d) (by omega) (by omega) hS hL ((T.nil w).quiet (hx1.trans hx4))).mono fun e w6 ⟨g, cr, he, h6⟩ => ⟨_, _, _, he, ?_⟩
  have hR8 := sqS_all L d
  have hsl : (sqS L d).length = d := sqS_len L d
  generalize sqS L d = R at h6 hR8 hsl
  have l6 := T.strs h6 (L := R) List.mem_cons_self
  have hRS := all_short hR8 (by decide)
  have f1 := make_spec (L := R) (c := cr) (by omega) hRS (by have := l6.2.2; omega) l6.1
  rw [hsl] at f1
  have hGg := make_good hR8 (by omega) (by omega)
  have hGk := hGg.ok (by decide)
  refine f1.mono fun e w7 hr => ?_
  rcases hr with ⟨_, b1, c1, he1, h7⟩ | ⟨hno, _⟩
  rotate_left
  · exact absurd hGk hno
  have h7 := T.call (Γ := []) h6 h7
  obtain ⟨n, hn⟩ : ∃ n, n = d + 2 := ⟨_, rfl⟩
  have hgl : (makeF R).length = n := by rw [makeF_len, hsl, hn]
  rw [← hn] at h7 he1
  generalize makeF R = G at h7 hGk hGg hgl
  have en2 : IntKind.i64.wrap ((d : Int) + 2) = (n : Int) := by rw [wrap64 _ (by omega) (by omega)]; omega
  simp only [en2]
  refine ⟨_, _, _, _, he1, no rfl (no (by simp) ⟨by omega, ?_⟩)⟩
  rw [pick_eq (n := n) (x := a) ha]
  have hi : a.toNat % n < n := Nat.mod_lt _ (by omega)
  generalize a.toNat % n = i at hi
  refine Alloc.t h7 fun k54 w8 h8 => ?_
  have h8 : T [] w w8 (rowP 9 1 (some k54) 0 0 [] :: rowP 9 1 (some b1) n c1 (txts G) :: [rowP 9 1 g d cr (txts R)]) := blk_row h8 rfl rfl (by decide)
  obtain ⟨bo, cb, w9, hrun, h9⟩ := copy_row h8 (b := b1) (n := n) (c1 := c1) (G := G) List.mem_cons_self hgl (by omega) (by omega)
  refine ⟨_, _, _, w9, hrun, ?_⟩
  have es : s = strB s.data.toList := (strB_list s).symm
  have hssz : s.data.toList.length ≤ 1000000 := by rw [Array.length_toList]; show s.size ≤ _; omega
  rw [es]
  generalize s.data.toList = x0 at hssz
  refine Alloc.t h9 fun k61 w10 h10 => ?_
  have h10 : T [] w w10 (rowP 9 1 (some k61) 1 1 (txts [x0]) :: rowP 9 1 (some bo) n cb (txts G) :: rowP 9 1 (some b1) n c1 (txts G) :: [rowP 9 1 g d cr (txts R)]) := blk_row h10 rfl rfl (by decide)
  have hx0S : Short [x0] := fun y hy => by rw [List.mem_singleton.1 hy]; exact hssz
  refine (squareS_spec (L := [x0]) (n := 1) (by omega) (by simp) hx0S (c := 1) (T.rowS h10 (b := k61) (by repeat (first | exact List.Mem.head _ | refine List.Mem.tail _ ?_))).1 (T.nil w10)).mono fun e w11 ⟨g62, c62, he, h11⟩ => ⟨_, _, _, he, ?_⟩
  have h11 := T.call (Γ := []) h10 h11
  have hsq : sqS [x0] 1 = [sq8 x0] := rfl
  rw [hsq] at h11
  obtain ⟨b62, rfl⟩ : ∃ b, g62 = some b := rowP.pos (h11.says List.mem_cons_self) (by omega)
  have hx8 := sq8_len x0
  generalize sq8 x0 = x at h11 hx8
  refine ⟨⟨b62, 0, none⟩, rfl, by omega, by simp, strB x, rowP.cell (k := 0) (h11.says List.mem_cons_self) rfl, ⟨bo, 0, none⟩, rfl, by omega, by omega, ?_⟩
  rw [Int.toNat_natCast]
  refine StS.t (L := G) (x := x) (b := bo) h11 (.tail (.tail .head)) (by omega) fun w12 h12 => ?_
  have hBl : (G.set i x).length = n := by rw [List.length_set, hgl]
  have hB8 : AllLen (G.set i x) 8 := hGg.all.set hx8 i
  have hBS := all_short hB8 (by decide)
  have l12 := T.rowS h12 (b := bo) (L := G.set i x) List.mem_cons_self
  obtain ⟨κ, hrep, hk1, hk2⟩ := one_rep hGg (i := i) (by omega) hx8
  have f2 := repair_spec (L := G.set i x) hBS (by omega) (c0 := cb) (by have := l12.2.2; omega) l12.1
  rw [hBl, hrep, hgl] at f2
  refine f2.mono fun e w13 ⟨p68, c68, he, s68, k68, hx13⟩ => ⟨_, _, _, _, _, he, no rfl ?_⟩
  have h13 := h12.quiet hx13
  have l13 := T.rowS h13 (b := b1) (L := G) (n := n) (cap := c1) (by repeat (first | exact List.Mem.head _ | refine List.Mem.tail _ ?_))
  have f3 := same_spec (A := G) (B := G) (c := c68) (d := c1) (by omega) s68 l13.1
  rw [hgl] at f3
  refine f3.mono fun e w14 ⟨he, hx14⟩ => ⟨_, he, no (by rw [decide_eq_true rfl]; rfl) ?_⟩
  have h14 := (h13.quiet hx14).drew
  refine ⟨fun w' => T [] w w' (rowP 9 1 (some bo) n cb (txts (G.set i x)) :: rowP 9 1 (some b62) 1 c62 (txts [x]) :: rowP 9 1 (some k61) 1 1 (txts [x0]) :: rowP 9 1 (some b1) n c1 (txts G) :: [rowP 9 1 g d cr (txts R)]), h14, ⟨bo, 0, none⟩, rfl, by omega, by omega, strB x, fun w' h' => ?_, ⟨b1, 0, none⟩, rfl, by omega, by omega, strB (G.getD i []), fun w' h' => ?_, ?_⟩
  · have := (T.rowS h' (b := bo) (L := G.set i x) List.mem_cons_self).1.cell (i := i) (by omega)
    rw [getD_set _ _ _ _ (by omega), if_pos rfl] at this
    exact this
  · exact (T.rowS h' (b := b1) (L := G) (n := n) (cap := c1) (by repeat (first | exact List.Mem.head _ | refine List.Mem.tail _ ?_))).1.cell (i := i) (by omega)
  rw [strB_toList, strB_toList]
  refine ⟨fun hb => ⟨?_, h14.chg.ext⟩, fun hb => ⟨?_, h14.chg.ext⟩⟩
  · rw [hk1 (by simpa using hb)]; rfl
  · rw [hk2 (by simpa using hb)]; simp
end Go.Proofs.YtdfkifgkccnaiaaGreatDoor
