import Derived.Test.YtignilchdffafaaLa1
/-! law06: RefillMore, RefillOrder. -/
namespace Go.Proofs.Ytignilchdffafaa
open Go.Sh Go.RowKit
set_option linter.unusedVariables false
set_option linter.unusedSimpArgs false
set_option maxRecDepth 20000
set_option maxHeartbeats 2000000
/-- texts, as lists of bytes -/
def bls (l : List ByteArray) : List Txt := l.map fun s => s.data.toList
theorem bls_len (l : List ByteArray) : (bls l).length = l.length := List.length_map ..
theorem bls_strs {w : World} {p : Option Addr} {l : List ByteArray} (h : strsAt w p l) : strsL w p (bls l) := by
  unfold strsL bls
  rw [List.map_map]
  have : (strB ∘ fun s : ByteArray => s.data.toList) = id := by funext s; exact strB_list s
  rw [this, List.map_id]
  exact h
/-- how many columns -/
def colsN (m : Int) : Nat := 4 + (m % 7).toNat
theorem cols_eq {m : Int} (h : 0 ≤ m ∧ m < 256) : IntKind.i64.wrap (4 + Int.tmod (IntKind.i64.wrap m) 7) = ((colsN m : Nat) : Int) ∧ 4 ≤ colsN m ∧ colsN m ≤ 10 := by
  unfold colsN
  rw [wrap64 m (by omega) (by omega), Int.tmod_eq_emod_of_nonneg h.1, wrap64 _ (by omega) (by omega)]
  omega
theorem pick_eq {x : Int} {n : Nat} (h : 0 ≤ x ∧ x < 256) : Int.tmod (IntKind.i64.wrap x) (n : Int) = ((x.toNat % n : Nat) : Int) := by
  rw [wrap64 x (by omega) (by omega), Int.tmod_eq_emod_of_nonneg h.1]
  push_cast
  rw [Int.toNat_of_nonneg h.1]
theorem seenL_same (n : Nat) {l : List Int} {x : Nat} (hm : (x : Int) ∈ l) (hx : x < n) : (seenL n l).set x (.bool true) = seenL n l := by
  apply List.ext_getElem?
  intro j
  rw [List.getElem?_set]
  by_cases e : x = j
  · subst e
    rw [if_pos rfl, if_pos (by simp [seenL]; exact hx), seenL_get n l hx, decide_eq_true hm]
  · rw [if_neg e]
theorem more_law {l : List ByteArray} {p q : Option Addr} {c d : Nat} {w : World} (H : strsAt w p l) {m : Int} (hm : 0 ≤ m ∧ m < 256) {lost : List UInt8} (Hq : bytesAt w q lost) :
    Ret Try.prog 3 #[.slice p l.length c, .int .u8 m, .slice q lost.length d] w (.bool true) := by
  refine ret_of (revetmentlaw06_RefillMore_calls ?_)
  unfold revetmentlaw06_RefillMore
  have hL := bls_strs H
  rw [← bls_len l]
  generalize bls l = L at hL
  refine (heavy_spec (n := 0) hL).mono fun e w1 ⟨he, hx1⟩ => ⟨_, he, fun hh => shown_end hx1, fun hh => ⟨dec_t fun _ => shown_end hx1, dec_f fun hl2 => ?_⟩⟩
  obtain ⟨h20, _, hS, _⟩ := heavy_short hh
  obtain ⟨en, n4, n10⟩ := cols_eq hm
  rw [en]
  generalize colsN m = n at n4 n10
  refine (shown_spec w1).mono fun e w4 ⟨he, hx4⟩ => ⟨_, he, no rfl ?_⟩
  refine Alloc.t ((T.nil w).quiet (hx1.trans hx4)) fun k30 w6 h6 => ?_
  have h6 : T [] w w6 (rowP 3 1 (some k30) 0 0 (intsI []) :: []) := blk_row h6 rfl rfl (by decide)
  obtain ⟨ks, w7, hmk, h7⟩ := make_t (P := Try.prog) (t := 27) (e := 4) (i := Try.t4) (z := .bool false) (kl := .i64) (kc := .i64) (n := (n : Int)) (c := (n : Int)) (by kernel_rfl) (by kernel_rfl) (by kernel_rfl) (by kernel_rfl) (by rfl) (by kernel_rfl) (by omega) (by omega) (by omega) h6
  simp only [Int.toNat_natCast] at hmk h7
  have hse : List.replicate n ((Value.bool false).cells.getD 0 undef) = seenL n [] := by
    apply List.ext_getElem?
    intro j
    by_cases hj : j < n
    · rw [seenL_get _ _ hj]; simp [hj]; rfl
    · simp [seenL, hj]
  rw [hse] at h7
  refine ⟨_, _, _, w7, hmk, ?_⟩
  refine ⟨fun vs w' => ∃ (i : Nat) (pl : List Int) (g : Option Nat) (cap : Nat), vs = [.slice (ptr g) pl.length cap, .int .i64 (i : Int)] ∧ i ≤ lost.length ∧ pl.length ≤ i ∧ (∀ x ∈ pl, 0 ≤ x ∧ x < (n : Int)) ∧ pl.Nodup ∧ T [] w w' [rowP 3 1 g pl.length cap (intsI pl), rowP 4 1 (some ks) n n (seenL n pl)], fun vs _ => match vs with | [_, .int _ i] => (lost.length - i).toNat | _ => 0, ⟨0, [], some k30, 0, rfl, by omega, by simp, by simp, by simp, h7.swap (.swap _ _ _)⟩, ?_⟩
  rintro vs w8 ⟨i, pl, g, cap, rfl, hi, hpl, hr, hnd, h8⟩
  refine ⟨_, _, _, _, rfl, dec_t fun hlt => ?_, dec_f fun hge => ?_⟩
  · have hlt : i < lost.length := by omega
    obtain ⟨a, ha⟩ := Hq.1 (by intro e; subst e; simp at hlt)
    have hc := (Hq.ext h8.chg.ext).2 a ha i lost[i] (List.getElem?_eq_getElem hlt)
    have hb := lost[i].toNat_lt
    refine ⟨a, ha, by omega, by omega, _, by rw [Int.toNat_natCast, Nat.mul_one]; exact hc, by omega, ?_⟩
    rw [pick_eq (n := n) (x := (lost[i].toNat : Int)) (by omega), Int.toNat_natCast]
    have hk : lost[i].toNat % n < n := Nat.mod_lt _ (by omega)
    generalize lost[i].toNat % n = k at hk
    refine Join.intro fun J hJ => ?_
    have main : ∀ (pl' : List Int) (g' : Option Nat) (cap' : Nat) (w9 : World), pl'.length ≤ i + 1 → (∀ x ∈ pl', 0 ≤ x ∧ x < (n : Int)) → pl'.Nodup → (seenL n pl).set k (.bool true) = seenL n pl' → T [] w w9 [rowP 3 1 g' pl'.length cap' (intsI pl'), rowP 4 1 (some ks) n n (seenL n pl)] → J [.slice (ptr g') pl'.length cap'] w9 := by
      intro pl' g' cap' w9 hl' hr' hn' hse' h9
      refine hJ _ _ ⟨_, _, _, rfl, ⟨ks, 0, none⟩, rfl, by omega, by omega, ?_⟩
      rw [addr_add, Nat.zero_add, Nat.mul_one, Int.toNat_natCast]
      refine StRow.t h9 (.tail .head) (by simp [seenL]; exact hk) rfl fun w10 h10 => ?_
      rw [hse'] at h10
      refine ⟨⟨i + 1, pl', g', cap', ?_, by omega, hl', hr', hn', h10.swap (.swap _ _ _)⟩, ?_⟩
      · rw [wrap64 _ (by omega) (by omega)]; rfl
      · show ((lost.length : Int) - IntKind.i64.wrap ((i : Int) + 1)).toNat < ((lost.length : Int) - (i : Int)).toNat
        rw [wrap64 _ (by omega) (by omega)]; omega
    refine ⟨⟨ks, 0, none⟩, rfl, by omega, by omega, _, by rw [addr_add, Nat.zero_add, Nat.mul_one, Int.toNat_natCast]; exact rowP.cell (h8.says (List.mem_cons_of_mem _ List.mem_cons_self)) (seenL_get n pl hk), ?_, ?_⟩
    · intro hns
      have hm' : (k : Int) ∉ pl := of_decide_eq_false (nott hns)
      refine push1_t (i := Try.t3) (z := .int .i64 0) (by kernel_rfl) (by kernel_rfl) (by kernel_rfl) (by kernel_rfl) (by kernel_rfl) (by kernel_rfl) h8 .head rfl (by omega) fun g' cap' w12 h12 => ?_
      have e1 : intsI pl ++ [.int .i64 (k : Int)] = intsI (pl ++ [(k : Int)]) := by simp [intsI]
      rw [e1] at h12
      have e2 : (pl ++ [(k : Int)]).length = pl.length + 1 := by simp
      rw [← e2] at h12 ⊢
      refine main (pl ++ [(k : Int)]) g' cap' w12 (by rw [e2]; omega) (fun x hx => ?_) ?_ ?_ h12
      · rcases List.mem_append.1 hx with hx | hx
        · exact hr x hx
        · obtain rfl := List.mem_singleton.1 hx
          omega
      · rw [List.nodup_append]
        refine ⟨hnd, by simp, fun x hx y hy => ?_⟩
        obtain rfl := List.mem_singleton.1 hy
        exact fun e => hm' (e ▸ hx)
      · have := seenL_set n (l := pl) (x := (k : Int)) (by omega)
        rw [Int.toNat_natCast] at this
        exact this
    · intro hs
      have hm' : (k : Int) ∈ pl := of_decide_eq_true (notf hs)
      exact main pl g cap w8 (by omega) hr hnd (seenL_same n hm' hk) h8
  · have hie : i = lost.length := by omega
    subst hie
    refine (square_spec (n := n) (by omega) (by omega) hS hL h8).mono fun e w13 ⟨gs, cs, he, h13⟩ => ⟨_, _, _, he, ?_⟩
    have hsq := (T.strs h13 List.mem_cons_self).1
    have hpi := (T.ints h13 (g := g) (l := pl) (by repeat (first | exact List.Mem.head _ | refine List.Mem.tail _ ?_))).1
    have hok := sqL_ok (L := L) n4 n10 hr hnd
    have hfs := fill_spec (L := sqL L n) (lost := pl) (c := cs) (d := cap) (by omega) (by rw [sqL_len]; omega) (sqL_short L n) hsq hpi
    rw [sqL_len] at hfs
    refine hfs.mono fun e w14 hr => ?_
    rcases hr with ⟨_, h2, b, cb, he, h14⟩ | ⟨n', hn0, he, hx, h60, _⟩
    · refine ⟨_, _, _, _, he, no (decide_eq_false (by omega)) (yes rfl ⟨?_, h13.chg.ext.trans h14.chg.ext⟩)⟩
      congr 1; simp
    · obtain ⟨h2, rfl⟩ := h60 hok
      exact ⟨_, _, _, _, he, yes (decide_eq_true (by omega)) (yes rfl ⟨by congr 1, h13.chg.ext.trans hx⟩)⟩
theorem lastLen_congr {L M : List Txt} {l : List Int} (h : ∀ j : Nat, (j : Int) ∉ l → L.getD j [] = M.getD j []) : ∀ i, lastLen L l i = lastLen M l i
  | 0 => rfl
  | i + 1 => by
    simp only [lastLen, lastLen_congr h i]
    by_cases hm : (i : Int) ∈ l
    · rw [if_pos hm, if_pos hm]
    · rw [if_neg hm, if_neg hm, h i hm]
theorem set4 {R : List Txt} {i k : Nat} (h : i ≠ k) (s t x y : Txt) : (((R.set i s).set k t).set i x).set k y = (R.set i x).set k y := by
  rw [List.set_comm _ _ (Ne.symm h), List.set_set, List.set_set]
theorem set4' {R : List Txt} {i k : Nat} (h : i ≠ k) (s t x y : Txt) : (((R.set i s).set k t).set k x).set i y = (R.set k x).set i y := by
  rw [List.set_set, List.set_comm _ _ (Ne.symm h), List.set_set, List.set_comm _ _ h]
theorem getD_set2 {R : List Txt} {i k j : Nat} (hi : j ≠ i) (hk : j ≠ k) (s t : Txt) : ((R.set i s).set k t).getD j [] = R.getD j [] := by
  simp [List.getD, List.getElem?_set, Ne.symm hi, Ne.symm hk]
/-- whatever stood in what is lost, in whatever order it is told -/
theorem fill_order {R : List Txt} {i k : Nat} (h : i ≠ k) (s t : Txt) : fillF ((R.set i s).set k t) [(k : Int), (i : Int)] = fillF R [(i : Int), (k : Int)] := by
  have hn : ∀ j : Nat, (j : Int) ∉ [(i : Int), (k : Int)] → j ≠ i ∧ j ≠ k := fun j hj => by simp at hj; omega
  have hn' : ∀ j : Nat, (j : Int) ∉ [(k : Int), (i : Int)] → j ≠ i ∧ j ≠ k := fun j hj => by simp at hj; omega
  have hlen : ((R.set i s).set k t).length = R.length := by simp
  unfold fillF
  rcases Nat.lt_or_gt_of_ne h with hlt | hgt
  · obtain ⟨e1, e2⟩ := srt_two (a := (i : Int)) (b := (k : Int)) (by omega)
    rw [e1, e2]
    unfold fillS
    rw [hlen, lastLen_congr (M := R) fun j hj => getD_set2 (hn j hj).1 (hn j hj).2 s t]
    have : ∀ z, zerL ((R.set i s).set k t) [(i : Int), (k : Int)] z [(i : Int), (k : Int)].length = zerL R [(i : Int), (k : Int)] z [(i : Int), (k : Int)].length := fun z => set4 h s t _ _
    rw [this]
  · obtain ⟨e1, e2⟩ := srt_two (a := (k : Int)) (b := (i : Int)) (by omega)
    rw [e1, e2]
    unfold fillS
    rw [hlen, lastLen_congr (M := R) fun j hj => getD_set2 (hn' j hj).1 (hn' j hj).2 s t]
    have : ∀ z, zerL ((R.set i s).set k t) [(k : Int), (i : Int)] z [(k : Int), (i : Int)].length = zerL R [(k : Int), (i : Int)] z [(k : Int), (i : Int)].length := fun z => set4' h s t _ _
    rw [this]
theorem ok_other {R : List Txt} {i k : Nat} (h : i ≠ k) (hi : i < R.length) (hk : k < R.length) (s t : Txt) (h4 : 4 ≤ R.length) (h10 : R.length ≤ 10) (h12 : ∀ j, j < R.length → (R.getD j []).length = 12) : OkM ((R.set i s).set k t) [(k : Int), (i : Int)] := by
  refine ⟨by simpa using h4, by simpa using h10, fun x hx => ?_, by simp; omega, 12, by omega, fun j hj hn => ?_⟩
  · simp only [List.length_set]
    simp at hx
    omega
  · simp at hn hj
    rw [getD_set2 (by omega) (by omega)]
    exact h12 j hj
theorem order_law {l : List ByteArray} {p : Option Addr} {c : Nat} {w : World} (H : strsAt w p l) {m a b : Int} (hm : 0 ≤ m ∧ m < 256) (ha : 0 ≤ a ∧ a < 256) (hb : 0 ≤ b ∧ b < 256) (s t : ByteArray) :
    Ret Try.prog 4 #[.slice p l.length c, .int .u8 m, .int .u8 a, .int .u8 b, .string s, .string t] w (.bool true) := by
  refine ret_of (revetmentlaw06_RefillOrder_calls ?_)
  unfold revetmentlaw06_RefillOrder
  have hL := bls_strs H
  rw [← bls_len l]
  generalize bls l = L at hL
  refine (heavy_spec (n := 0) hL).mono fun e w1 ⟨he, hx1⟩ => ⟨_, he, fun hh => shown_end hx1, fun hh => ⟨dec_t fun _ => shown_end hx1, dec_f fun hs1 => ⟨dec_t fun _ => shown_end hx1, dec_f fun hs2 => ?_⟩⟩⟩
  obtain ⟨h20, _, hS, _⟩ := heavy_short hh
  obtain ⟨en, n4, n10⟩ := cols_eq hm
  rw [en]
  generalize colsN m = n at n4 n10
  refine (shown_spec w1).mono fun e w5 ⟨he, hx5⟩ => ⟨_, he, no rfl ?_⟩
  refine (square_spec (n := n) (by omega) (by omega) hS hL ((T.nil w).quiet (hx1.trans hx5))).mono fun e w7 ⟨g45, c45, he, h7⟩ => ⟨_, _, _, he, by omega, by omega, ?_⟩
  rw [pick_eq (n := n) (x := a) ha, pick_eq (n := n) (x := b) hb]
  have hi : a.toNat % n < n := Nat.mod_lt _ (by omega)
  have hk : b.toNat % n < n := Nat.mod_lt _ (by omega)
  generalize a.toNat % n = i at hi
  generalize b.toNat % n = k' at hk
  refine Join.intro fun J hJ => ?_
  obtain ⟨b45, rfl⟩ : ∃ b, g45 = some b := rowP.pos (h7.says List.mem_cons_self) (by omega)
  have main : ∀ k : Nat, k < n → i ≠ k → J [.int .i64 (k : Int)] w7 := by
    intro k hk hik
    refine hJ _ _ ⟨_, rfl, Alloc.t h7 fun k61 w9 h9 => ?_⟩
    have h9 : T [] w w9 (rowP 9 1 (some k61) 0 0 [] :: [rowP 9 1 (some b45) n c45 (txts (sqL L n))]) := blk_row h9 rfl rfl (by decide)
    have hrow := T.rowS h9 (b := b45) (L := sqL L n) (by repeat (first | exact List.Mem.head _ | refine List.Mem.tail _ ?_))
    obtain ⟨g', cap', w10, hr, h10⟩ := append_t (P := Try.prog) (t := 22) (ty := 22) (e := 9) (i := Try.t9) (z := .string (ByteArray.mk #[])) (size := 1) #[false, false] (by kernel_rfl) (by kernel_rfl) (by kernel_rfl) (by kernel_rfl) (by rfl)
      h9 .head (a := ⟨b45, 0, none⟩) (m := n) (c := c45) (news := txts (sqL L n)) (by rw [txts_len, sqL_len, Nat.mul_one]) (fun j u hu => by
        rw [addr_add, Nat.zero_add]
        exact rowP.cell (h9.says (List.mem_cons_of_mem _ List.mem_cons_self)) hu) (fun u hu => by
        obtain ⟨x, _, rfl⟩ := List.mem_map.1 hu
        rfl) (by simp only [maxLen]; omega) (by
        have : (Try.t9).bytes = 16 := by kernel_rfl
        rw [this]; omega)
    rw [Nat.zero_add] at hr
    rw [Nat.zero_add, List.nil_append] at h10
    obtain ⟨bo, rfl⟩ : ∃ b, g' = some b := rowP.pos (h10.says List.mem_cons_self) (by omega)
    refine ⟨_, _, _, w10, hr, ⟨bo, 0, none⟩, rfl, by omega, by omega, ?_⟩
    have hsl : (sqL L n).length = n := sqL_len L n
    rw [Int.toNat_natCast]
    have es : s = strB s.data.toList := (strB_list s).symm
    have et : t = strB t.data.toList := (strB_list t).symm
    rw [es, et]
    refine StS.t h10 .head (by rw [hsl]; exact hi) fun w11 h11 => ⟨⟨bo, 0, none⟩, rfl, by omega, by omega, ?_⟩
    rw [Int.toNat_natCast]
    refine StS.t h11 .head (by rw [List.length_set, hsl]; exact hk) fun w12 h12 => ?_
    generalize hR : sqL L n = R at h12 hsl
    have hO : OkM ((R.set i s.data.toList).set k t.data.toList) [(k : Int), (i : Int)] := ok_other hik (by omega) (by omega) _ _ (by omega) (by omega) fun j hj => by rw [← hR, sqL_get L (by omega), sq1_len]
    have hRk : OkM R [(i : Int), (k : Int)] := by rw [← hR]; exact sqL_ok n4 n10 (fun x hx => by simp at hx; omega) (by simp; omega)
    have hRS : Short R := by rw [← hR]; exact sqL_short L n
    have hOS : Short ((R.set i s.data.toList).set k t.data.toList) := set_short (set_short hRS (by rw [Array.length_toList]; show s.size ≤ _; omega) i) (by rw [Array.length_toList]; show t.size ≤ _; omega) k
    have hOl : ((R.set i s.data.toList).set k t.data.toList).length = n := by simp [hsl]
    refine Alloc.t h12 fun k77 w13 h13 => ?_
    have h13 : T [] w w13 (rowP 3 1 (some k77) 2 2 (intsI [(i : Int), (k : Int)]) :: rowP 9 1 (some bo) n cap' (txts ((R.set i s.data.toList).set k t.data.toList)) :: [rowP 9 1 (some b45) n c45 (txts R)]) := blk_row h13 rfl rfl (by decide)
    have f1 := fill_spec (L := R) (lost := [(i : Int), (k : Int)]) (c := c45) (d := 2) (by simp) (by omega) hRS (T.strs h13 (g := some b45) (by repeat (first | exact List.Mem.head _ | refine List.Mem.tail _ ?_))).1 (T.ints h13 List.mem_cons_self).1
    rw [hsl] at f1
    refine f1.mono fun e w14 hr1 => ?_
    rcases hr1 with ⟨_, _, b1, c1, he1, h14⟩ | ⟨n', _, _, _, h60, _⟩
    · refine ⟨_, _, _, _, he1, ?_⟩
      have h14' := T.call (Γ := []) h13 h14
      refine Alloc.t h14' fun k85 w15 h15 => ?_
      have h15 : T [] w w15 (rowP 3 1 (some k85) 2 2 (intsI [(k : Int), (i : Int)]) :: rowP 9 1 (some b1) n c1 (txts (fillF R [(i : Int), (k : Int)])) :: rowP 3 1 (some k77) 2 2 (intsI [(i : Int), (k : Int)]) :: rowP 9 1 (some bo) n cap' (txts ((R.set i s.data.toList).set k t.data.toList)) :: [rowP 9 1 (some b45) n c45 (txts R)]) := blk_row h15 rfl rfl (by decide)
      have f2 := fill_spec (L := (R.set i s.data.toList).set k t.data.toList) (lost := [(k : Int), (i : Int)]) (c := cap') (d := 2) (by simp) (by omega) hOS (T.strs h15 (g := some bo) (by repeat (first | exact List.Mem.head _ | refine List.Mem.tail _ ?_))).1 (T.ints h15 List.mem_cons_self).1
      rw [hOl] at f2
      refine f2.mono fun e w16 hr2 => ?_
      rcases hr2 with ⟨_, _, b2, c2, he2, h16⟩ | ⟨n', _, _, _, h60, _⟩
      · have h16' := T.call (Γ := []) h15 h16
        refine ⟨_, _, _, _, he2, yes rfl (yes rfl ?_)⟩
        rw [fill_order hik] at h16'
        have l1 := (T.strs h16' (L := fillF R [(i : Int), (k : Int)]) (g := some b1) (n := n) (cap := c1) (by repeat (first | exact List.Mem.head _ | refine List.Mem.tail _ ?_)))
        have l2 := (T.strs h16' (L := fillF R [(i : Int), (k : Int)]) (g := some b2) (n := n) (cap := c2) (by repeat (first | exact List.Mem.head _ | refine List.Mem.tail _ ?_)))
        have hsm := same_spec (A := fillF R [(i : Int), (k : Int)]) (B := fillF R [(i : Int), (k : Int)]) (c := c1) (d := c2) (by omega) l1.1 l2.1
        rw [l1.2.1] at hsm
        exact hsm.mono fun e w17 ⟨he, hx⟩ => ⟨_, he, by rw [decide_eq_true rfl], h16'.chg.ext.trans hx⟩
      · exact absurd (h60 hO).1 (by simp)
    · exact absurd (h60 hRk).1 (by simp)
  refine ⟨beq_t fun e => ⟨by omega, ?_⟩, beq_f fun e => main k' hk (by omega)⟩
  have e2 : Int.tmod (IntKind.i64.wrap ((i : Int) + 1)) (n : Int) = (((i + 1) % n : Nat) : Int) := by
    have := pick_eq (x := (i : Int) + 1) (n := n) (by omega)
    rw [this]
    congr 1
  rw [e2]
  refine main ((i + 1) % n) (Nat.mod_lt _ (by omega)) fun e' => ?_
  rcases Nat.lt_or_ge (i + 1) n with h | h
  · rw [Nat.mod_eq_of_lt h] at e'; omega
  · have : i + 1 = n := by omega
    rw [this, Nat.mod_self] at e'
    omega
end Go.Proofs.Ytignilchdffafaa
