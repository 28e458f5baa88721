import Derived.Test.YtdfkifgkccnaiaaGreatDoorSw1
/-! law18: ScrubParity, ScrubMany. -/
namespace Go.Proofs.YtdfkifgkccnaiaaGreatDoor
open Go.Sh Go.RowKit
set_option linter.unusedVariables false
set_option linter.unusedSimpArgs false
set_option maxRecDepth 20000
set_option maxHeartbeats 2000000
theorem arr_first (a : Addr) (w : World) : (Instr.sliceAt 38 (.pointer (some a)) none (some (.int .i64 1)) none).run Tryz.prog w = .ok (.slice (some a) 1 2) w := by kernel_rfl
theorem arr_second (a : Addr) (w : World) : (Instr.sliceAt 38 (.pointer (some a)) (some (.int .i64 1)) none none).run Tryz.prog w = .ok (.slice (some (a.add 1)) 1 1) w := by kernel_rfl
theorem one_strs {w : World} {a : Addr} {x : Txt} (h : w.cell? a = some (.string (strB x))) : strsL w (some a) [x] :=
  ⟨fun _ => ⟨a, rfl⟩, fun b hb j s hj => by
    obtain rfl := Option.some.inj hb
    match j, hj with
    | 0, hj =>
      cases hj
      rw [show Addr.add a 0 = a by simp [Addr.add]]; exact h
    | j + 1, hj => simp at hj⟩
theorem makeF_pq {R A : List Txt} (h2 : 2 ≤ R.length) (h : A.take (R.length - 2) = R.take (R.length - 2)) (hl : A.length = R.length) (hR : ∃ D, R = makeF D) : makeF (A.take (A.length - 2)) = R := by
  obtain ⟨D, rfl⟩ := hR
  rw [hl, h, makeF_len, Nat.add_sub_cancel]
  unfold makeF
  rw [List.take_left]
theorem parS_law {l : List ByteArray} {p : Option Addr} {c : Nat} {w : World} (H : strsAt w p l) {m : Int} (hm : 0 ≤ m ∧ m < 256) (s t : ByteArray) :
    Ret Tryz.prog 7 #[.slice p l.length c, .int .u8 m, .agg #[.string s, .string t]] w (.bool true) := by
  refine ret_of (revetmentlaw18_ScrubParity_calls ?_)
  unfold revetmentlaw18_ScrubParity
  have hL := bls_strs H
  rw [← bls_len l]
  generalize bls l = L at hL
  have es : s = strB s.data.toList := (strB_list s).symm
  have et : t = strB t.data.toList := (strB_list t).symm
  rw [es, et]
  generalize s.data.toList = x0
  generalize t.data.toList = y0
  refine Alloc.t (T.nil w) fun k5 w0 h0 => ?_
  refine (heavyS_spec (hL.ext h0.chg.ext)).mono fun e w1 ⟨he, hx1⟩ => ⟨_, he, fun hh => shownS_end (h0.chg.ext.trans hx1), fun hh => ?_⟩
  have h1 := h0.quiet hx1
  refine ⟨by omega, by omega, _, h1.ld (b := k5) (by repeat (first | exact List.Mem.head _ | refine List.Mem.tail _ ?_)) rfl, dec_t fun _ => shownS_end h1.chg.ext, dec_f fun hx0 => ⟨by omega, by omega, _, h1.ld (b := k5) (by repeat (first | exact List.Mem.head _ | refine List.Mem.tail _ ?_)) rfl, dec_t fun _ => shownS_end h1.chg.ext, dec_f fun hy0 => ?_⟩⟩
  rw [strB_size] at hx0 hy0
  obtain ⟨h20, hS⟩ := heavyS_short hh
  refine (shownS_spec w1).mono fun e w4 ⟨he, hx4⟩ => ⟨_, he, no rfl ?_⟩
  have h4 := h1.quiet hx4
  obtain ⟨d, en, d2, d8⟩ := d_cols hm
  simp only [en]
  refine (squareS_spec (n := d) (by omega) (by omega) hS (hL.ext h4.chg.ext) (T.nil w4)).mono fun e w6 ⟨g, cr, he, h6⟩ => ⟨_, _, _, he, ?_⟩
  have h6 := T.call (Γ := []) h4 h6
  have hR8 := sqS_all L d
  have hsl : (sqS L d).length = d := sqS_len L d
  generalize sqS L d = R at h6 hR8 hsl
  have l6 := T.strs h6 (L := R) List.mem_cons_self
  have hRS := all_short hR8 (by decide)
  have f1 := make_spec (L := R) (c := cr) (by omega) hRS (by have := l6.2.2; omega) l6.1
  rw [hsl] at f1
  have hGg := make_good hR8 (by omega) (by omega)
  have hGk := hGg.ok (by decide)
  refine f1.mono fun e w7 hr => ?_
  rcases hr with ⟨_, b1, c1, he1, h7⟩ | ⟨hno, _⟩
  rotate_left
  · exact absurd hGk hno
  have h7 := T.call (Γ := []) h6 h7
  obtain ⟨n, hn⟩ : ∃ n, n = d + 2 := ⟨_, rfl⟩
  have hgl : (makeF R).length = n := by rw [makeF_len, hsl, hn]
  have hGm : ∃ D, makeF R = makeF D := ⟨R, rfl⟩
  rw [← hn] at h7 he1
  generalize makeF R = G at h7 hGk hGg hgl hGm
  have en2 : IntKind.i64.wrap ((d : Int) + 2) = (n : Int) := by rw [wrap64 _ (by omega) (by omega)]; omega
  have en1 : IntKind.i64.wrap ((d : Int) + 1) = ((d + 1 : Nat) : Int) := by rw [wrap64 _ (by omega) (by omega)]; omega
  simp only [en2, en1]
  refine ⟨_, _, _, _, he1, no rfl (no (by simp) ?_)⟩
  refine Alloc.t h7 fun k54 w8 h8 => ?_
  have h8 : T [] w w8 (rowP 9 1 (some k54) 0 0 [] :: rowP 9 1 (some b1) n c1 (txts G) :: rowP 9 1 g d cr (txts R) :: [blk k5 #[.string (strB x0), .string (strB y0)] 38]) := blk_row h8 rfl rfl (by decide)
  obtain ⟨bo, cb, w9, hrun, h9⟩ := copy_row h8 (b := b1) (n := n) (c1 := c1) (G := G) List.mem_cons_self hgl (by omega) (by omega)
  refine ⟨_, _, _, w9, hrun, ?_⟩
  have hc0 := h9.ld (b := k5) (i := 0) (v := .string (strB x0)) (by repeat (first | exact List.Mem.head _ | refine List.Mem.tail _ ?_)) rfl
  refine ⟨_, _, _, w9, arr_first _ w9, ?_⟩
  have hx0S : Short [x0] := fun y hy => by rw [List.mem_singleton.1 hy]; omega
  refine (squareS_spec (L := [x0]) (n := 1) (by omega) (by simp) hx0S (c := 2) (one_strs hc0) (T.nil w9)).mono fun e w11 ⟨g62, c62, he, h11⟩ => ⟨_, _, _, he, ?_⟩
  have h11 := T.call (Γ := []) h9 h11
  have hsq : sqS [x0] 1 = [sq8 x0] := rfl
  rw [hsq] at h11
  obtain ⟨b62, rfl⟩ : ∃ b, g62 = some b := rowP.pos (h11.says List.mem_cons_self) (by omega)
  have hx8 := sq8_len x0
  generalize sq8 x0 = x at h11 hx8
  refine ⟨⟨b62, 0, none⟩, rfl, by omega, by simp, strB x, rowP.cell (k := 0) (h11.says List.mem_cons_self) rfl, ⟨bo, 0, none⟩, rfl, by omega, by omega, ?_⟩
  rw [Int.toNat_natCast]
  refine StS.t (L := G) (x := x) (b := bo) h11 (.tail .head) (by omega) fun w12 h12 => ?_
  have hc1 := h12.ld (b := k5) (i := 1) (v := .string (strB y0)) (by repeat (first | exact List.Mem.head _ | refine List.Mem.tail _ ?_)) rfl
  refine ⟨_, _, _, w12, arr_second _ w12, ?_⟩
  have hy0S : Short [y0] := fun y hy => by rw [List.mem_singleton.1 hy]; omega
  refine (squareS_spec (L := [y0]) (n := 1) (by omega) (by simp) hy0S (c := 1) (one_strs (by rw [addr_add]; exact hc1)) (T.nil w12)).mono fun e w13 ⟨g63, c63, he, h13⟩ => ⟨_, _, _, he, ?_⟩
  have h13 := T.call (Γ := []) h12 h13
  have hsq : sqS [y0] 1 = [sq8 y0] := rfl
  rw [hsq] at h13
  obtain ⟨b63, rfl⟩ : ∃ b, g63 = some b := rowP.pos (h13.says List.mem_cons_self) (by omega)
  have hy8 := sq8_len y0
  generalize sq8 y0 = y at h13 hy8
  refine ⟨⟨b63, 0, none⟩, rfl, by omega, by simp, strB y, rowP.cell (k := 0) (h13.says List.mem_cons_self) rfl, ⟨bo, 0, none⟩, rfl, by omega, by omega, ?_⟩
  rw [Int.toNat_natCast]
  refine StS.t (L := G.set d x) (x := y) (b := bo) h13 (.tail .head) (by rw [List.length_set]; omega) fun w14 h14 => ?_
  have hBl : ((G.set d x).set (d + 1) y).length = n := by rw [List.length_set, List.length_set, hgl]
  have hB8 : AllLen ((G.set d x).set (d + 1) y) 8 := (hGg.all.set hx8 d).set hy8 (d + 1)
  have hBt : ((G.set d x).set (d + 1) y).take (G.length - 2) = G.take (G.length - 2) := by
    rw [List.take_set_of_le (by omega), List.take_set_of_le (by omega)]
  have hmk := makeF_pq (by omega) hBt (by rw [hBl, hgl]) hGm
  have hBk := ok_all (L := (G.set d x).set (d + 1) y) (by omega) (by have := hGg.n10; omega) hB8 (by decide)
  generalize (G.set d x).set (d + 1) y = B at h14 hBl hB8 hmk hBk
  have hBS := all_short hB8 (by decide)
  have l14 := T.rowS h14 (b := bo) (L := B) List.mem_cons_self
  have hpg : parG B = (G, 0) := by unfold parG; rw [if_pos hBk, hmk]
  have f2 := parity_spec (L := B) hBS (by omega) (c0 := cb) (by have := l14.2.2; omega) l14.1
  rw [hBl, hpg, hgl] at f2
  refine f2.mono fun e w15 ⟨p68, c68, he, s68, k68, hx15⟩ => ⟨_, _, _, _, he, ?_⟩
  have h15 := h14.quiet hx15
  have l15 := T.rowS h15 (b := b1) (L := G) (n := n) (cap := c1) (by repeat (first | exact List.Mem.head _ | refine List.Mem.tail _ ?_))
  have f3 := repair_spec (L := G) (all_short hGg.all (by decide)) (by omega) (c0 := c1) (by have := l15.2.2; omega) l15.1
  rw [hGg.rep (by decide), hgl] at f3
  refine f3.mono fun e w16 ⟨p69, c69, he, s69, k69, hx16⟩ => ⟨_, _, _, _, _, he, yes rfl ?_⟩
  have l16 := l15.1.ext hx16
  have f4 := same_spec (A := G) (B := G) (c := c68) (d := c1) (by omega) (s68.ext hx16) l16
  rw [hgl] at f4
  refine f4.mono fun e w17 ⟨he, hx17⟩ => ⟨_, he, yes (decide_eq_true rfl) (yes rfl (yes rfl ?_))⟩
  have f5 := same_spec (A := G) (B := G) (c := c69) (d := c1) (by omega) (s69.ext hx17) (l16.ext hx17)
  rw [hgl] at f5
  exact f5.mono fun e w18 ⟨he, hx18⟩ => ⟨_, he, by rw [decide_eq_true rfl], (h15.chg.ext.trans hx16).trans (hx17.trans hx18)⟩
/-- one byte of a text is another one -/
def xor0 (x : UInt8) (l : Txt) : Txt := (l.getD 0 0 ^^^ x) :: l.drop 1
theorem xor0_len (x : UInt8) {l : Txt} (h : 0 < l.length) : (xor0 x l).length = l.length := by unfold xor0; rw [List.length_cons, List.length_drop]; omega
theorem xor0_zero {l : Txt} (h : 0 < l.length) : xor0 0 l = l := by
  unfold xor0
  cases l with
  | nil => simp at h
  | cons a l => simp
theorem xor0_ne {x : UInt8} {l : Txt} (hx : x ≠ 0) (h : 0 < l.length) : xor0 x l ≠ l := by
  unfold xor0
  cases l with
  | nil => simp at h
  | cons a l =>
    intro e
    have h1 := (List.cons.inj e).1
    have h2 : a ^^^ x = a := by simpa using h1
    have h3 := congrArg (fun z => a ^^^ z) h2
    simp only [← UInt8.xor_assoc, UInt8.xor_self, UInt8.zero_xor] at h3
    exact hx h3
theorem xor0_get (x : UInt8) {l : Txt} (h : 0 < l.length) (j : Nat) : (xor0 x l).getD j 0 = l.getD j 0 ^^^ (if j = 0 then x else 0) := by
  unfold xor0
  cases l with
  | nil => simp at h
  | cons a l =>
    cases j with
    | zero => simp
    | succ j => simp
/-- two columns lie at the same place -/
theorem two_lie {G : List Txt} {m : Nat} (h : GoodL G m) (h0 : 0 < m) {i k : Nat} (hi : i < G.length) (hk : k < G.length) (hik : i ≠ k) (x y : UInt8) :
    (judV ((G.set i (xor0 x (G.getD i []))).set k (xor0 y (G.getD k [])))).1 = 0 ↔ x = 0 ∧ y = 0 := by
  have n4 := h.n4
  have n10 := h.n10
  have li := h.all i hi
  have lk := h.all k hk
  have hA : AllLen (G.set i (xor0 x (G.getD i []))) m := h.all.set (by rw [xor0_len x (by omega)]; exact li) i
  have hB : AllLen ((G.set i (xor0 x (G.getD i []))).set k (xor0 y (G.getD k []))) m := hA.set (by rw [xor0_len y (by omega)]; exact lk) k
  have hBl : ((G.set i (xor0 x (G.getD i []))).set k (xor0 y (G.getD k []))).length = G.length := by rw [List.length_set, List.length_set]
  constructor
  · intro hz
    have hg := GoodL.of_zero (by omega) (by omega) hB hz
    obtain ⟨p1, q1⟩ := hg.rel 0 h0
    obtain ⟨p2, q2⟩ := h.rel 0 h0
    rw [hBl] at p1 q1
    have pd := p1.xor p2
    have qd := q1.xor q2
    have di : (fun c => col ((G.set i (xor0 x (G.getD i []))).set k (xor0 y (G.getD k []))) 0 c ^^^ col G 0 c) i = x := by
      show col _ 0 i ^^^ col G 0 i = x
      rw [col_out (by rw [List.length_set]; exact hk) hik, col_at hi, xor0_get x (by omega)]
      unfold col
      rw [if_pos rfl, UInt8.xor_comm, ← UInt8.xor_assoc, UInt8.xor_self, UInt8.zero_xor]
    have dk : (fun c => col ((G.set i (xor0 x (G.getD i []))).set k (xor0 y (G.getD k []))) 0 c ^^^ col G 0 c) k = y := by
      show col _ 0 k ^^^ col G 0 k = y
      rw [col_at (by rw [List.length_set]; exact hk), xor0_get y (by omega)]
      unfold col
      rw [if_pos rfl, UInt8.xor_comm, ← UInt8.xor_assoc, UInt8.xor_self, UInt8.zero_xor]
    have dz : ∀ c, c < G.length - 2 + 2 → c ≠ i → c ≠ k → (fun c => col ((G.set i (xor0 x (G.getD i []))).set k (xor0 y (G.getD k []))) 0 c ^^^ col G 0 c) c = 0 := by
      intro c _ hci hck
      show col _ 0 c ^^^ col G 0 c = 0
      rw [col_out (by rw [List.length_set]; exact hk) hck, col_out hi hci, UInt8.xor_self]
    rcases Nat.lt_or_ge i k with hlt | hge
    · obtain ⟨a, b⟩ := two_zero pd qd hlt (by omega) (by omega) dz
      exact ⟨di.symm.trans a, dk.symm.trans b⟩
    · obtain ⟨a, b⟩ := two_zero pd qd (i := k) (k := i) (by omega) (by omega) (by omega) fun c hc h1 h2 => dz c hc h2 h1
      exact ⟨di.symm.trans b, dk.symm.trans a⟩
  · rintro ⟨rfl, rfl⟩
    rw [xor0_zero (by omega), xor0_zero (by omega), set_same, set_same, judV_good h]
theorem two_back {G : List Txt} {m : Nat} (h : GoodL G m) (h0 : 0 < m) (hm : m ≤ 4096) {i k : Nat} (hi : i < G.length) (hk : k < G.length) {x y : UInt8} (hxy : x = 0 ∨ y = 0) :
    (repF ((G.set i (xor0 x (G.getD i []))).set k (xor0 y (G.getD k [])))).1 = G := by
  have li := h.all i hi
  have lk := h.all k hk
  have one : ∀ (i : Nat) (hi : i < G.length) (x : UInt8), (repF (G.set i (xor0 x (G.getD i [])))).1 = G := fun i hi x => by
    have li := h.all i hi
    by_cases hx : x = 0
    · rw [hx, xor0_zero (by omega), set_same, h.rep hm]
    · rw [lie_rep h hm hi (by rw [xor0_len x (by omega)]; exact li) (xor0_ne hx (by omega))]
  rcases hxy with rfl | rfl
  · rw [xor0_zero (by omega), set_same]; exact one k hk y
  · rw [xor0_zero (l := G.getD k []) (by omega)]
    by_cases hik : i = k
    · subst hik
      rw [List.set_set, set_same, h.rep hm]
    · have : (G.set i (xor0 x (G.getD i []))).set k (G.getD k []) = G.set i (xor0 x (G.getD i [])) := by
        have e : G.getD k [] = (G.set i (xor0 x (G.getD i []))).getD k [] := by rw [get_out (by omega)]
        rw [e, set_same]
      rw [this]; exact one i hi x
/-- the byte 0 of a text, another way -/
theorem xorB_run {l : Txt} (hl : l.length = 8) (x : UInt8) :
    (∀ w, (Instr.index 9 (.string (strB l)) (.int .i64 0)).run Tryz.prog w = .ok (.int .u8 ((l.getD 0 0).toNat : Int)) w) ∧
    (∀ w, (Instr.sliceAt 9 (.string (strB l)) (some (.int .i64 1)) none none).run Tryz.prog w = .ok (.string (strB (l.drop 1))) w) ∧
    strB [l.getD 0 0 ^^^ x] ++ strB (l.drop 1) = strB (xor0 x l) := by
  refine ⟨fun w => ?_, fun w => ?_, ?_⟩
  · have := index_str (P := Tryz.prog) (t := 9) (k := .i64) (n := (0 : Int)) (s := strB l) (w := w) (by kernel_rfl) (by omega) (by rw [strB_size]; omega)
    exact this
  · have := slice_from (P := Tryz.prog) (t := 9) (k := .i64) (s := strB l) (lo := 1) (w := w) (by kernel_rfl) (by omega) (by rw [strB_size]; omega)
    rw [strB_extract, strB_size] at this
    have ht : (l.drop (1 : Int).toNat).take (l.length - (1 : Int).toNat) = l.drop 1 := by
      rw [show (1 : Int).toNat = 1 from rfl]
      exact List.take_of_length_le (by rw [List.length_drop]; omega)
    rw [ht] at this
    exact this
  · rw [strB_append]; rfl
theorem u8_is {a : Int} (h : 0 ≤ a ∧ a < 256) : ∃ x : UInt8, a = (x.toNat : Int) := by
  refine ⟨UInt8.ofNat a.toNat, ?_⟩
  rw [UInt8.toNat_ofNat']
  omega
theorem manyS_law {l : List ByteArray} {p : Option Addr} {c : Nat} {w : World} (H : strsAt w p l) {m a b x' y' : Int} (hm : 0 ≤ m ∧ m < 256) (ha : 0 ≤ a ∧ a < 256) (hb : 0 ≤ b ∧ b < 256) (hx' : 0 ≤ x' ∧ x' < 256) (hy' : 0 ≤ y' ∧ y' < 256) :
    Ret Tryz.prog 4 #[.slice p l.length c, .int .u8 m, .int .u8 a, .int .u8 b, .int .u8 x', .int .u8 y'] w (.bool true) := by
  refine ret_of (revetmentlaw18_ScrubMany_calls ?_)
  unfold revetmentlaw18_ScrubMany
  have hL := bls_strs H
  rw [← bls_len l]
  generalize bls l = L at hL
  obtain ⟨x, rfl⟩ := u8_is hx'
  obtain ⟨y, rfl⟩ := u8_is hy'
  refine (heavyS_spec hL).mono fun e w1 ⟨he, hx1⟩ => ⟨_, he, fun hh => shownS_end hx1, fun hh => ?_⟩
  obtain ⟨h20, hS⟩ := heavyS_short hh
  refine (shownS_spec w1).mono fun e w4 ⟨he, hx4⟩ => ⟨_, he, no rfl ?_⟩
  obtain ⟨d, en, d2, d8⟩ := d_cols hm
  simp only [en]
  refine (squareS_spec (n := d) (by omega) (by omega) hS hL ((T.nil w).quiet (hx1.trans hx4))).mono fun e w6 ⟨g, cr, he, h6⟩ => ⟨_, _, _, he, ?_⟩
  have hR8 := sqS_all L d
  have hsl : (sqS L d).length = d := sqS_len L d
  generalize sqS L d = R at h6 hR8 hsl
  have l6 := T.strs h6 (L := R) List.mem_cons_self
  have hRS := all_short hR8 (by decide)
  have f1 := make_spec (L := R) (c := cr) (by omega) hRS (by have := l6.2.2; omega) l6.1
  rw [hsl] at f1
  have hGg := make_good hR8 (by omega) (by omega)
  have hGk := hGg.ok (by decide)
  refine f1.mono fun e w7 hr => ?_
  rcases hr with ⟨_, b1, c1, he1, h7⟩ | ⟨hno, _⟩
  rotate_left
  · exact absurd hGk hno
  have h7 := T.call (Γ := []) h6 h7
  obtain ⟨n, hn⟩ : ∃ n, n = d + 2 := ⟨_, rfl⟩
  have hgl : (makeF R).length = n := by rw [makeF_len, hsl, hn]
  rw [← hn] at h7 he1
  generalize makeF R = G at h7 hGk hGg hgl
  have en2 : IntKind.i64.wrap ((d : Int) + 2) = (n : Int) := by rw [wrap64 _ (by omega) (by omega)]; omega
  simp only [en2]
  refine ⟨_, _, _, _, he1, no rfl (no (by simp) ⟨by omega, by omega, ?_⟩)⟩
  rw [pick_eq (n := n) (x := a) ha, pick_eq (n := n) (x := b) hb]
  have hi : a.toNat % n < n := Nat.mod_lt _ (by omega)
  have hk0 : b.toNat % n < n := Nat.mod_lt _ (by omega)
  generalize a.toNat % n = i at hi
  generalize b.toNat % n = k0 at hk0
  refine Join.intro fun J hJ => ?_
  have body : ∀ k : Nat, k < n → i ≠ k → J [.int .i64 (k : Int)] w7 := by
    intro k hk hik
    refine hJ _ _ ⟨_, rfl, ?_⟩
    refine Alloc.t h7 fun k54 w8 h8 => ?_
    have h8 : T [] w w8 (rowP 9 1 (some k54) 0 0 [] :: rowP 9 1 (some b1) n c1 (txts G) :: [rowP 9 1 g d cr (txts R)]) := blk_row h8 rfl rfl (by decide)
    obtain ⟨bo, cb, w9, hrun, h9⟩ := copy_row h8 (b := b1) (n := n) (c1 := c1) (G := G) List.mem_cons_self hgl (by omega) (by omega)
    refine ⟨_, _, _, w9, hrun, ?_⟩
    obtain ⟨i1, i2, i3⟩ := xorB_run (hGg.all i (by omega)) x
    obtain ⟨k1, k2, k3⟩ := xorB_run (hGg.all k (by omega)) y
    refine ⟨fun w' => ∃ Δ, rowP 9 1 (some b1) n c1 (txts G) ∈ Δ ∧ T [] w w' Δ, ⟨_, (by repeat (first | exact List.Mem.head _ | refine List.Mem.tail _ ?_)), h9.drew⟩, ⟨b1, 0, none⟩, rfl, by omega, by omega, strB (G.getD i []), fun w' ⟨Δ, hm, h'⟩ => ?_, _, fun w' _ => i1 w', ?_⟩
    · rw [Int.toNat_natCast]; exact (T.rowS h' hm).1.cell (i := i) (by omega)
    rw [u8_xor]
    refine Alloc.t h9.drew fun k83 w10 h10 => ⟨⟨_, (by repeat (first | exact List.Mem.head _ | refine List.Mem.tail _ ?_)), h10⟩, strB [(G.getD i []).getD 0 0 ^^^ x], ?_, ⟨b1, 0, none⟩, rfl, by omega, by omega, strB (G.getD i []), fun w' ⟨Δ, hm, h'⟩ => ?_, _, fun w' _ => i2 w', ?_, ⟨bo, 0, none⟩, rfl, by omega, by omega, ?_⟩
    · rintro x0 rfl
      have hrow : T [] w x0 (rowP 5 1 (some k83) 1 1 (bvals [(G.getD i []).getD 0 0 ^^^ x]) :: _) := blk_row h10 rfl rfl (by decide)
      exact row_string hrow List.mem_cons_self
    · rw [Int.toNat_natCast]; exact (T.rowS h' hm).1.cell (i := i) (by omega)
    · rw [strB_size, strB_size, List.length_drop, hGg.all i (by omega), List.length_singleton]; decide
    rw [i3, Int.toNat_natCast]
    refine StS.t (L := G) (x := xor0 x (G.getD i [])) (b := bo) h10 (.tail .head) (by omega) fun w11 h11 => ?_
    refine ⟨fun w' => ∃ Δ, rowP 9 1 (some b1) n c1 (txts G) ∈ Δ ∧ T [] w w' Δ, ⟨_, (by repeat (first | exact List.Mem.head _ | refine List.Mem.tail _ ?_)), h11.drew⟩, ⟨b1, 0, none⟩, rfl, by omega, by omega, strB (G.getD k []), fun w' ⟨Δ, hm, h'⟩ => ?_, _, fun w' _ => k1 w', ?_⟩
    · rw [Int.toNat_natCast]; exact (T.rowS h' hm).1.cell (i := k) (by omega)
    rw [u8_xor]
    refine Alloc.t h11.drew fun k101 w12 h12 => ⟨⟨_, (by repeat (first | exact List.Mem.head _ | refine List.Mem.tail _ ?_)), h12⟩, strB [(G.getD k []).getD 0 0 ^^^ y], ?_, ⟨b1, 0, none⟩, rfl, by omega, by omega, strB (G.getD k []), fun w' ⟨Δ, hm, h'⟩ => ?_, _, fun w' _ => k2 w', ?_, ⟨bo, 0, none⟩, rfl, by omega, by omega, ?_⟩
    · rintro x0 rfl
      have hrow : T [] w x0 (rowP 5 1 (some k101) 1 1 (bvals [(G.getD k []).getD 0 0 ^^^ y]) :: _) := blk_row h12 rfl rfl (by decide)
      exact row_string hrow List.mem_cons_self
    · rw [Int.toNat_natCast]; exact (T.rowS h' hm).1.cell (i := k) (by omega)
    · rw [strB_size, strB_size, List.length_drop, hGg.all k (by omega), List.length_singleton]; decide
    rw [k3, Int.toNat_natCast]
    refine StS.t (L := G.set i (xor0 x (G.getD i []))) (x := xor0 y (G.getD k [])) (b := bo) h12 (.tail .head) (by rw [List.length_set]; omega) fun w13 h13 => ?_
    have li := hGg.all i (by omega)
    have lk := hGg.all k (by omega)
    have hB8 : AllLen ((G.set i (xor0 x (G.getD i []))).set k (xor0 y (G.getD k []))) 8 := (hGg.all.set (by rw [xor0_len x (by omega)]; exact li) i).set (by rw [xor0_len y (by omega)]; exact lk) k
    have hBl : ((G.set i (xor0 x (G.getD i []))).set k (xor0 y (G.getD k []))).length = n := by rw [List.length_set, List.length_set, hgl]
    have t1 := two_lie hGg (by omega) (i := i) (k := k) (by omega) (by omega) hik x y
    have t2 : x = 0 ∨ y = 0 → _ := two_back hGg (by omega) (by decide) (i := i) (k := k) (by omega) (by omega) (x := x) (y := y)
    generalize (G.set i (xor0 x (G.getD i []))).set k (xor0 y (G.getD k [])) = B at h13 hB8 hBl t1 t2
    have n10 := hGg.n10
    have hBS := all_short hB8 (by decide)
    have hBk := ok_all (L := B) (by omega) (by omega) hB8 (by decide)
    obtain ⟨r1, r2⟩ := rep_all (R := B) (by omega) (by omega) hB8
    have l13 := T.rowS h13 (b := bo) (L := B) List.mem_cons_self
    have f2 := judge_spec (L := B) hBS (by omega) (c0 := cb) (by have := l13.2.2; omega) l13.1
    rw [hBl] at f2
    refine f2.mono fun e w14 ⟨hx14, h⟩ => ?_
    have he := (h.resolve_right fun h => h.1 hBk).2
    refine ⟨_, _, _, he, ?_⟩
    have f3 := repair_spec (L := B) hBS (by omega) (c0 := cb) (by have := l13.2.2; omega) (l13.1.ext hx14)
    rw [hBl] at f3
    refine f3.mono fun e w15 ⟨p38, c38, he, s38, k38, hx15⟩ => ⟨_, _, _, _, _, he, ?_⟩
    have h15 := h13.quiet (hx14.trans hx15)
    refine Join.intro fun J1 hJ1 => no rfl ?_
    have fin : J1 [] w15 := by
      refine hJ1 _ _ ⟨rfl, fun h2 => ?_, fun h2 => ?_⟩
      · have h2 : (judV B).1 = 2 := by simpa using h2
        have h5 := r1.2 h2
        rcases r2 with ⟨e0, _⟩ | ⟨e5, hnil⟩
        · rw [e0] at h5; cases h5
        · exact yes (by rw [e5]; rfl) ⟨by rw [hnil]; rfl, h15.chg.ext⟩
      · have h2 : (judV B).1 ≠ 2 := by simpa using h2
        rcases r2 with ⟨e0, hg, hgl'⟩ | ⟨e5, _⟩
        · refine yes (by rw [e0]; rfl) ?_
          have hM10 := hg.n10
          refine (goodR_spec (L := (repF B).1) (all_short hg.all (by decide)) (by have := hg.n4; omega) (by omega) (c := c38) k38 s38).mono fun e w17 ⟨he, hx17⟩ => ⟨_, he, yes hg.goodF ?_⟩
          have last : (x = 0 ∨ y = 0) → Calls Tryz.prog 13 #[.slice p38 (repF B).1.length c38, .slice (some ⟨b1, 0, none⟩) n c1] w17 fun e w' => ∃ b : Bool, e = .returned (.bool b) ∧ RetR w (.bool true) (.bool b) w' := fun hxy => by
            have h17 := h15.quiet hx17
            have l17 := T.rowS h17 (b := b1) (L := G) (n := n) (cap := c1) (by repeat (first | exact List.Mem.head _ | refine List.Mem.tail _ ?_))
            have f4 := same_spec (A := (repF B).1) (B := G) (c := c38) (d := c1) (by omega) (s38.ext hx17) l17.1
            rw [hgl] at f4
            exact f4.mono fun e w18 ⟨he, hx18⟩ => ⟨_, he, by rw [t2 hxy, decide_eq_true rfl], h17.chg.ext.trans hx18⟩
          by_cases hx0 : x = 0
          · exact no (by rw [hx0]; rfl) (last (.inl hx0))
          · refine yes (by have : (x.toNat : Int) ≠ 0 := fun e => hx0 (UInt8.toNat_inj.1 (by simpa using e)); simpa using this) ?_
            by_cases hy0 : y = 0
            · exact no (by rw [hy0]; rfl) (last (.inr hy0))
            · exact yes (by have : (y.toNat : Int) ≠ 0 := fun e => hy0 (UInt8.toNat_inj.1 (by simpa using e)); simpa using this) ⟨trivial, h15.chg.ext.trans hx17⟩
        · exact absurd (r1.1 e5) h2
    have zi : ∀ z : UInt8, ((z.toNat : Int) == 0) = decide (z = 0) := fun z => by
      by_cases hz : z = 0
      · rw [hz]; rfl
      · rw [decide_eq_false hz]
        have : (z.toNat : Int) ≠ 0 := fun e => hz (UInt8.toNat_inj.1 (by simpa using e))
        simpa using this
    rw [zi x, zi y]
    by_cases hx0 : x = 0
    · refine yes (decide_eq_true hx0) (no ?_ fin)
      by_cases hy0 : y = 0
      · have := t1.2 ⟨hx0, hy0⟩
        rw [this, decide_eq_true hy0]; rfl
      · have : (judV B).1 ≠ 0 := fun e => hy0 (t1.1 e).2
        rw [decide_eq_false hy0]
        simpa using this
    · refine no (decide_eq_false hx0) (no ?_ fin)
      have : (judV B).1 ≠ 0 := fun e => hx0 (t1.1 e).1
      simpa using this
  have next : IntKind.i64.wrap ((i : Int) + 1) = ((i + 1 : Nat) : Int) := by rw [wrap64 _ (by omega) (by omega)]; rfl
  have hmod : Int.tmod ((i + 1 : Nat) : Int) (n : Int) = (((i + 1) % n : Nat) : Int) := by rw [Int.tmod_eq_emod_of_nonneg (by omega)]; push_cast; rfl
  rw [next, hmod]
  refine ⟨fun h => ⟨by omega, body _ (Nat.mod_lt _ (by omega)) ?_⟩, fun h => body _ hk0 ?_⟩
  · by_cases hl : i + 1 < n
    · rw [Nat.mod_eq_of_lt hl]; omega
    · have : i + 1 = n := by omega
      rw [this, Nat.mod_self]; omega
  · intro e
    rw [e] at h
    simp at h
end Go.Proofs.YtdfkifgkccnaiaaGreatDoor
