import Derived.Test.YtignilchdffafaaGreatRf1
import Derived.Test.YtignilchdffafaaGreatLa4
/-! law06: RefillGood, RefillTwo. -/
namespace Go.Proofs.YtignilchdffafaaGreat
open Go.Sh Go.RowKit
set_option linter.unusedVariables false
set_option linter.unusedSimpArgs false
set_option maxRecDepth 20000
set_option maxHeartbeats 2000000
theorem beqL {x y : Txt} (h : x = y) : (!(x == y)) = false := by rw [h]; simp
theorem good_law {l : List ByteArray} {p : Option Addr} {c : Nat} {w : World} (H : strsAt w p l) {m a b : Int} (hm : 0 ≤ m ∧ m < 256) (ha : 0 ≤ a ∧ a < 256) (hb : 0 ≤ b ∧ b < 256) :
    Ret Tryz.prog 3 #[.slice p l.length c, .int .u8 m, .int .u8 a, .int .u8 b] w (.bool true) := by
  refine ret_of (revetmentlaw06_RefillGood_calls ?_)
  unfold revetmentlaw06_RefillGood
  have hL := bls_strs H
  rw [← bls_len l]
  generalize bls l = L at hL
  refine (heavy_spec (n := 0) hL).mono fun e w1 ⟨he, hx1⟩ => ⟨_, he, fun hh => shown_end hx1, fun hh => ?_⟩
  obtain ⟨h20, _, hS, _⟩ := heavy_short hh
  obtain ⟨en, n4, n10⟩ := cols_eq hm
  rw [en]
  generalize colsN m = n at n4 n10
  refine (shown_spec w1).mono fun e w3 ⟨he, hx3⟩ => ⟨_, he, no rfl ?_⟩
  refine (square_spec (n := n) (by omega) (by omega) hS hL ((T.nil w).quiet (hx1.trans hx3))).mono fun e w5 ⟨g, cr, he, h5⟩ => ⟨_, _, _, he, by omega, by omega, ?_⟩
  obtain ⟨b0, rfl⟩ : ∃ b, g = some b := rowP.pos (h5.says List.mem_cons_self) (by omega)
  rw [pick_eq (n := n) (x := a) ha, pick_eq (n := n) (x := b) hb]
  have hi : a.toNat % n < n := Nat.mod_lt _ (by omega)
  have hk : b.toNat % n < n := Nat.mod_lt _ (by omega)
  generalize a.toNat % n = i at hi
  generalize b.toNat % n = k' at hk
  refine Join.intro fun J hJ => ?_
  have main : ∀ k : Nat, k < n → i ≠ k → J [.int .i64 (k : Int)] w5 := by
    intro k hk hik
    refine hJ _ _ ⟨_, rfl, Alloc.t h5 fun k49 w7 h7 => ?_⟩
    have hR12 := sqL_all L n
    have hRS := sqL_short L n
    have hRk : OkM (sqL L n) [(i : Int), (k : Int)] := sqL_ok n4 n10 (fun x hx => by simp at hx; omega) (by simp; omega)
    have hsl : (sqL L n).length = n := sqL_len L n
    have h7 : T [] w w7 (rowP 3 1 (some k49) 2 2 (intsI [(i : Int), (k : Int)]) :: [rowP 9 1 (some b0) n cr (txts (sqL L n))]) := blk_row h7 rfl rfl (by decide)
    generalize sqL L n = R at h7 hR12 hRS hRk hsl
    have f1 := fill_spec (L := R) (lost := [(i : Int), (k : Int)]) (c := cr) (d := 2) (by simp) (by omega) hRS (T.rowS h7 (b := b0) (by repeat (first | exact List.Mem.head _ | refine List.Mem.tail _ ?_))).1 (T.ints h7 List.mem_cons_self).1
    rw [hsl] at f1
    refine f1.mono fun e w8 hr => ?_
    rcases hr with ⟨_, _, b1, c1, he1, h8⟩ | ⟨n', _, _, _, h60, _⟩
    rotate_left
    · exact absurd (h60 hRk).1 (by simp)
    have h8 := T.call (Γ := []) h7 h8
    have hF := fill_col (m := 12) hRk (by simp) fun j hj _ => hR12 j hj
    generalize fillF R [(i : Int), (k : Int)] = G at h8 hF
    have hl := T.rowS h8 (b := b1) (L := G) (n := n) (cap := c1) (by repeat (first | exact List.Mem.head _ | refine List.Mem.tail _ ?_))
    have hGS : Short G := fun x hx => by
      obtain ⟨j, hj, rfl⟩ := List.getElem_of_mem hx
      have := hF.all j hj
      simp [List.getD, hj] at this
      omega
    have hgl : G.length = n := hl.2.1
    have hGg : goodF G = true := (goodF_iff hF.all (by omega)).2 fun j _ => by
      have := (hF.fil j).two rfl
      rw [hsl] at this
      rw [hgl]; exact this
    refine ⟨_, _, _, _, he1, no rfl (no (by simp) ?_)⟩
    have hg := goodR_spec hGS (by omega) (by omega) (c := c1) (by have := hl.2.2; omega) hl.1
    rw [hgl, hGg] at hg
    refine hg.mono fun e w9 ⟨he, hx9⟩ => ⟨_, he, no rfl ?_⟩
    have h9 := h8.quiet hx9
    have cG : ∀ w' (j : Nat), j < n → T [] w w' [rowP 9 1 (some b1) n c1 (txts G), rowP 3 1 (some k49) 2 2 (intsI [(i : Int), (k : Int)]), rowP 9 1 (some b0) n cr (txts R)] → w'.cell? (Addr.add ⟨b1, 0, none⟩ (((j : Int)).toNat * 1)) = some (.string (strB (G.getD j []))) := fun w' j hj h => by
      rw [Int.toNat_natCast]
      exact (T.rowS h (b := b1) (L := G) (n := n) (cap := c1) (by repeat (first | exact List.Mem.head _ | refine List.Mem.tail _ ?_))).1.cell (by omega)
    have cR : ∀ w' (j : Nat), j < n → T [] w w' [rowP 9 1 (some b1) n c1 (txts G), rowP 3 1 (some k49) 2 2 (intsI [(i : Int), (k : Int)]), rowP 9 1 (some b0) n cr (txts R)] → w'.cell? (Addr.add ⟨b0, 0, none⟩ (((j : Int)).toNat * 1)) = some (.string (strB (R.getD j []))) := fun w' j hj h => by
      rw [Int.toNat_natCast]
      exact (T.rowS h (b := b0) (L := R) (n := n) (cap := cr) (by repeat (first | exact List.Mem.head _ | refine List.Mem.tail _ ?_))).1.cell (by omega)
    have h9 : T [] w w9 [rowP 9 1 (some b1) n c1 (txts G), rowP 3 1 (some k49) 2 2 (intsI [(i : Int), (k : Int)]), rowP 9 1 (some b0) n cr (txts R)] := h9
    generalize [rowP 9 1 (some b1) n c1 (txts G), rowP 3 1 (some k49) 2 2 (intsI [(i : Int), (k : Int)]), rowP 9 1 (some b0) n cr (txts R)] = Γ at h9 cG cR
    refine ⟨fun vs w' => ∃ j : Nat, vs = [.int .i64 (j : Int)] ∧ j ≤ n ∧ T [] w w' Γ, fun vs _ => match vs with | [.int _ j] => (n - j).toNat | _ => 0, ⟨0, rfl, by omega, h9⟩, ?_⟩
    rintro vs w10 ⟨j, rfl, hj, h10⟩
    refine ⟨_, rfl, dec_t fun hlt => ?_, dec_f fun hge => ⟨rfl, h10.chg.ext⟩⟩
    have hlt : j < n := by omega
    have h12 : ((strB (G.getD j [])).size : Int) = 12 := by rw [strB_size, hF.all j (by omega)]; rfl
    have c1' := fun w' h => cG w' j hlt h
    have c0' := fun w' h => cR w' j hlt h
    refine ⟨fun w' => T [] w w' Γ, h10.drew, fun h1 => ⟨fun h2 => ⟨_, rfl, by omega, by omega, _, c1', _, rfl, by omega, by omega, _, c0', ?_⟩, fun _ => ⟨_, rfl, by omega, by omega, _, c1', ?_⟩⟩, fun _ => ⟨_, rfl, by omega, by omega, _, c1', ?_⟩⟩
    · have e1 : (j : Int) ≠ (i : Int) := by simpa using h1
      have e2 : (j : Int) ≠ (k : Int) := by simpa using h2
      rw [strB_toList, strB_toList]
      refine no (beqL (hF.out j (by simp; omega))) ⟨_, rfl, by omega, by omega, _, c1', ?_⟩
      rw [h12]
      refine no rfl ⟨⟨j + 1, ?_, by omega, h10.drew⟩, ?_⟩
      · rw [wrap64 _ (by omega) (by omega)]; rfl
      · show ((n : Int) - IntKind.i64.wrap ((j : Int) + 1)).toNat < ((n : Int) - (j : Int)).toNat
        rw [wrap64 _ (by omega) (by omega)]; omega
    · rw [h12]
      refine no rfl ⟨⟨j + 1, ?_, by omega, h10.drew⟩, ?_⟩
      · rw [wrap64 _ (by omega) (by omega)]; rfl
      · show ((n : Int) - IntKind.i64.wrap ((j : Int) + 1)).toNat < ((n : Int) - (j : Int)).toNat
        rw [wrap64 _ (by omega) (by omega)]; omega
    · rw [h12]
      refine no rfl ⟨⟨j + 1, ?_, by omega, h10.drew⟩, ?_⟩
      · rw [wrap64 _ (by omega) (by omega)]; rfl
      · show ((n : Int) - IntKind.i64.wrap ((j : Int) + 1)).toNat < ((n : Int) - (j : Int)).toNat
        rw [wrap64 _ (by omega) (by omega)]; omega
  refine ⟨beq_t fun e => ⟨by omega, ?_⟩, beq_f fun e => main k' hk (by omega)⟩
  have e2 : Int.tmod (IntKind.i64.wrap ((i : Int) + 1)) (n : Int) = (((i + 1) % n : Nat) : Int) := by
    have := pick_eq (x := (i : Int) + 1) (n := n) (by omega)
    rw [this]
    congr 1
  rw [e2]
  refine main ((i + 1) % n) (Nat.mod_lt _ (by omega)) fun e' => ?_
  rcases Nat.lt_or_ge (i + 1) n with h | h
  · rw [Nat.mod_eq_of_lt h] at e'; omega
  · have : i + 1 = n := by omega
    rw [this, Nat.mod_self] at e'
    omega
theorem makeF_good (L : List Txt) (j : Nat) : PRel (col (makeF L) j) L.length ∧ QRel (col (makeF L) j) L.length := by
  have hc : ∀ c, c < L.length → col (makeF L) j c = col L j c := fun c hc => by unfold col; rw [makeF_get, if_pos hc]
  have hp : col (makeF L) j L.length = (sumT L).getD j 0 := by unfold col; rw [makeF_get, if_neg (by omega), if_pos rfl]
  have hq : col (makeF L) j (L.length + 1) = (qT L).getD j 0 := by unfold col; rw [makeF_get, if_neg (by omega), if_neg (by omega), if_pos rfl]
  constructor
  · unfold PRel
    rw [hp, sx_congr hc]
    exact sAcc_col L j _
  · unfold QRel
    have : sx (wq (col (makeF L) j)) L.length = sx (wq (col L j)) L.length := sx_congr fun c h => congrArg (xp c) (hc c h)
    rw [hq, this]
    exact qAcc_col L j _
theorem two_law {l : List ByteArray} {p : Option Addr} {c : Nat} {w : World} (H : strsAt w p l) {m a b : Int} (hm : 0 ≤ m ∧ m < 256) (ha : 0 ≤ a ∧ a < 256) (hb : 0 ≤ b ∧ b < 256) (s : ByteArray) :
    Ret Tryz.prog 5 #[.slice p l.length c, .int .u8 m, .int .u8 a, .int .u8 b, .string s] w (.bool true) := by
  refine ret_of (revetmentlaw06_RefillTwo_calls ?_)
  unfold revetmentlaw06_RefillTwo
  have hL := bls_strs H
  rw [← bls_len l]
  generalize bls l = L at hL
  refine (heavy_spec (n := 0) hL).mono fun e w1 ⟨he, hx1⟩ => ⟨_, he, fun hh => shown_end hx1, fun hh => ⟨dec_t fun _ => shown_end hx1, dec_f fun hs1 => ?_⟩⟩
  obtain ⟨h20, _, hS, _⟩ := heavy_short hh
  refine (shown_spec w1).mono fun e w4 ⟨he, hx4⟩ => ⟨_, he, no rfl ?_⟩
  obtain ⟨d, en, d2, d8⟩ : ∃ d : Nat, IntKind.i64.wrap (2 + Int.tmod (IntKind.i64.wrap m) 7) = ((d : Nat) : Int) ∧ 2 ≤ d ∧ d ≤ 8 := by
    refine ⟨2 + (m % 7).toNat, ?_, by omega, by omega⟩
    rw [wrap64 m (by omega) (by omega), Int.tmod_eq_emod_of_nonneg hm.1, wrap64 _ (by omega) (by omega)]
    omega
  rw [en]
  refine (square_spec (n := d) (by omega) (by omega) hS hL ((T.nil w).quiet (hx1.trans hx4))).mono fun e w6 ⟨g, cr, he, h6⟩ => ⟨_, _, _, he, ?_⟩
  obtain ⟨b0, rfl⟩ : ∃ b, g = some b := rowP.pos (h6.says List.mem_cons_self) (by omega)
  have hR12 := sqL_all L d
  have hRS := sqL_short L d
  have hsl : (sqL L d).length = d := sqL_len L d
  generalize sqL L d = R at h6 hR12 hRS hsl
  have l6 := T.rowS h6 (b := b0) (L := R) (n := d) (cap := cr) (by repeat (first | exact List.Mem.head _ | refine List.Mem.tail _ ?_))
  have f1 := make_spec (L := R) (c := cr) (by omega) hRS (by have := l6.2.2; omega) l6.1
  rw [hsl] at f1
  have hGk : OkM (makeF R) [] := makeF_ok hR12 (by omega) (by omega) (by omega)
  refine f1.mono fun e w7 hr => ?_
  rcases hr with ⟨_, b1, c1, he1, h7⟩ | ⟨hno, _⟩
  rotate_left
  · exact absurd hGk hno
  have h7 := T.call (Γ := []) h6 h7
  have hG12 : AllLen (makeF R) 12 := makeF_all hR12 (by omega)
  have hGS := makeF_short hRS
  have hGg : ∀ j, PRel (col (makeF R) j) d ∧ QRel (col (makeF R) j) d := fun j => by rw [← hsl]; exact makeF_good R j
  generalize makeF R = G at h7 hGk hG12 hGS hGg
  obtain ⟨n, hn⟩ : ∃ n, n = d + 2 := ⟨_, rfl⟩
  rw [← hn] at h7 he1
  have hl := T.rowS h7 (b := b1) (L := G) (n := n) (cap := c1) (by repeat (first | exact List.Mem.head _ | refine List.Mem.tail _ ?_))
  have hgl : G.length = n := hl.2.1
  have en2 : IntKind.i64.wrap ((d : Int) + 2) = (n : Int) := by rw [wrap64 _ (by omega) (by omega)]; omega
  refine ⟨_, _, _, _, he1, no rfl ?_⟩
  rw [en2]
  refine no (by simp) ?_
  have hGd : goodF G = true := (goodF_iff hG12 (by omega)).2 fun j _ => by
    rw [hgl, show n - 2 = d by omega]; exact hGg j
  have hg := goodR_spec hGS (by omega) (by omega) (c := c1) (by have := hl.2.2; omega) hl.1
  rw [hgl, hGd] at hg
  refine hg.mono fun e w8 ⟨he, hx8⟩ => ⟨_, he, no rfl ⟨by omega, by omega, ?_⟩⟩
  rw [pick_eq (n := n) (x := a) ha, pick_eq (n := n) (x := b) hb]
  have hi : a.toNat % n < n := Nat.mod_lt _ (by omega)
  have hk : b.toNat % n < n := Nat.mod_lt _ (by omega)
  generalize a.toNat % n = i at hi
  generalize b.toNat % n = k at hk
  refine Alloc.t (h7.quiet hx8) fun k68 w9 h9 => ?_
  have h9 : T [] w w9 (rowP 3 1 (some k68) 1 1 (intsI [(i : Int)]) :: rowP 9 1 (some b1) n c1 (txts G) :: [rowP 9 1 (some b0) d cr (txts R)]) := blk_row h9 rfl rfl (by decide)
  refine Join.intro fun J hJ => ?_
  have main : ∀ (gl : Option Nat) (cl : Nat) (lost : List Int) (wJ : World), lost.length ≤ 2 → lost.Nodup → (∀ x, x ∈ lost ↔ x = (i : Int) ∨ x = (k : Int)) → T [] w wJ (rowP 3 1 gl lost.length cl (intsI lost) :: rowP 9 1 (some b1) n c1 (txts G) :: [rowP 9 1 (some b0) d cr (txts R)]) → J [.slice (ptr gl) lost.length cl] wJ := by
    intro gl cl lost wJ hl2 hnd hmem hT
    refine hJ _ _ ⟨_, _, _, rfl, Alloc.t hT fun k76 w11 h11 => ?_⟩
    have h11 : T [] w w11 (rowP 9 1 (some k76) 0 0 [] :: rowP 3 1 gl lost.length cl (intsI lost) :: rowP 9 1 (some b1) n c1 (txts G) :: [rowP 9 1 (some b0) d cr (txts R)]) := blk_row h11 rfl rfl (by decide)
    obtain ⟨g', cap', w12, hr, h12⟩ := append_t (P := Tryz.prog) (t := 22) (ty := 22) (e := 9) (i := Tryz.t9) (z := .string (ByteArray.mk #[])) (size := 1) #[false, false] (by kernel_rfl) (by kernel_rfl) (by kernel_rfl) (by kernel_rfl) (by rfl)
      h11 .head (a := ⟨b1, 0, none⟩) (m := n) (c := c1) (news := txts G) (by rw [txts_len, hgl, Nat.mul_one]) (fun j u hu => by
        rw [addr_add, Nat.zero_add]
        exact rowP.cell (h11.says (List.mem_cons_of_mem _ (List.mem_cons_of_mem _ List.mem_cons_self))) hu) (fun u hu => by
        obtain ⟨x, _, rfl⟩ := List.mem_map.1 hu
        rfl) (by simp only [maxLen]; omega) (by
        have : (Tryz.t9).bytes = 16 := by kernel_rfl
        rw [this]; omega)
    rw [Nat.zero_add] at hr
    rw [Nat.zero_add, List.nil_append] at h12
    obtain ⟨bo, rfl⟩ : ∃ b, g' = some b := rowP.pos (h12.says List.mem_cons_self) (by omega)
    refine ⟨_, _, _, w12, hr, ⟨bo, 0, none⟩, rfl, by omega, by omega, ?_⟩
    rw [Int.toNat_natCast]
    have es : s = strB s.data.toList := (strB_list s).symm
    rw [es]
    refine StS.t h12 .head (by rw [hgl]; exact hi) fun w13 h13 => ⟨⟨bo, 0, none⟩, rfl, by omega, by omega, ?_⟩
    rw [Int.toNat_natCast]
    refine StS.t h13 .head (by rw [List.length_set, hgl]; exact hk) fun w14 h14 => ?_
    have hss : s.data.toList.length ≤ 1000000 := by rw [Array.length_toList]; show s.size ≤ _; omega
    have hBS : Short ((G.set i s.data.toList).set k s.data.toList) := set_short (set_short hGS hss i) hss k
    have hBl : ((G.set i s.data.toList).set k s.data.toList).length = n := by simp [hgl]
    have hBo : ∀ j : Nat, (j : Int) ∉ lost → ((G.set i s.data.toList).set k s.data.toList).getD j [] = G.getD j [] := fun j hj => by
      rw [hmem] at hj
      exact (get_out (by omega) _).trans (get_out (by omega) _)
    have hBk : OkM ((G.set i s.data.toList).set k s.data.toList) lost := ⟨by omega, by omega, fun x hx => by rw [hBl]; have := (hmem x).1 hx; omega, hnd, 12, by omega, fun j hj hn => by rw [hBo j hn]; exact hG12 j (by omega)⟩
    have hfb := fill_back (R := G) (m := 12) hBk hl2 (by omega) hG12 (fun c _ hn => hBo c hn) fun j => by
      rw [hgl, show n - 2 = d by omega]
      exact Filled.good (hGg j).1 (hGg j).2 _
    generalize (G.set i s.data.toList).set k s.data.toList = B at h14 hBS hBl hBk hfb
    have f2 := fill_spec (L := B) (lost := lost) (c := cap') (d := cl) (by omega) (by omega) hBS (T.rowS h14 (b := bo) (by repeat (first | exact List.Mem.head _ | refine List.Mem.tail _ ?_))).1 (T.ints h14 (g := gl) (l := lost) (by repeat (first | exact List.Mem.head _ | refine List.Mem.tail _ ?_))).1
    rw [hBl] at f2
    refine f2.mono fun e w15 hr2 => ?_
    rcases hr2 with ⟨_, _, b2, c2, he2, h15⟩ | ⟨n', _, _, _, h60, _⟩
    rotate_left
    · exact absurd (h60 hBk).1 (by omega)
    have h15 := T.call (Γ := []) h14 h15
    rw [hfb] at h15
    refine ⟨_, _, _, _, he2, yes rfl ?_⟩
    have l1 := T.rowS h15 (b := b2) (L := G) (n := n) (cap := c2) (by repeat (first | exact List.Mem.head _ | refine List.Mem.tail _ ?_))
    have l2 := T.rowS h15 (b := b1) (L := G) (n := n) (cap := c1) (by repeat (first | exact List.Mem.head _ | refine List.Mem.tail _ ?_))
    have hsm := same_spec (A := G) (B := G) (c := c2) (d := c1) (by omega) l1.1 l2.1
    rw [hgl] at hsm
    exact hsm.mono fun e w16 ⟨he, hx⟩ => ⟨_, he, by rw [decide_eq_true rfl], h15.chg.ext.trans hx⟩
  refine ⟨bne_t fun hne => ?_, bne_f fun he => ?_⟩
  · refine push1_t (i := Tryz.t3) (z := .int .i64 0) (by kernel_rfl) (by kernel_rfl) (by kernel_rfl) (by kernel_rfl) (by kernel_rfl) (by kernel_rfl) h9 .head rfl (by omega) fun g' cap' w12 h12 => ?_
    exact main g' cap' [(i : Int), (k : Int)] w12 (by simp) (by simp; omega) (fun x => by simp) h12
  · exact main (some k68) 1 [(i : Int)] w9 (by simp) (by simp) (fun x => by simp; omega) h9
end Go.Proofs.YtignilchdffafaaGreat
