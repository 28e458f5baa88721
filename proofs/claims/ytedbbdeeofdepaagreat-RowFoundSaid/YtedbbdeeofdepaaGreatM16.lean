import Derived.Test.YtedbbdeeofdepaaGreatM15
/-! row: RowFound. -/
namespace Go.Proofs.YtedbbdeeofdepaaGreat
open Go.Sh Go.RowKit
set_option linter.unusedVariables false
set_option linter.unusedSimpArgs false
set_option maxRecDepth 20000
set_option maxHeartbeats 2000000
theorem Ow.stRow {h : Kd} {F : List Nat} {w0 w : World} {X Δ : List A} {e : TypeId} {n cap b k : Nat} {xs : List Value} {v : Value} {K : World → Prop} (H : Ow h F w0 w X) (hk : Pick (rowP e 1 (some b) n cap xs) X Δ) (hkl : k < xs.length) (hv : scalar v = true)
    (hK : ∀ w', Ow h F w0 w' (rowP e 1 (some b) n cap (xs.set k v) :: Δ) → K w') : St (Addr.add ⟨b, 0, none⟩ (k * 1)) v w K := by
  obtain ⟨Y, hY, hT⟩ := H
  exact StRow1.t hT (hk.app Y) hkl hv fun w' h' => hK w' ⟨Y, hY, h'⟩
/-- a drive is forgotten -/
theorem Ow.forget {ds : List Od} {F : List Nat} {w0 w : World} {X : List A} (H : Ow (dsK ds) F w0 w X) (k : Nat) : Ow (dsK (ds.set k none)) F w0 w X := by
  by_cases hk : k < ds.length
  · have he : ds[k]? = some ds[k] := List.getElem?_eq_getElem hk
    obtain ⟨Z, h1, h2⟩ := Ow.at he H
    exact h2 (x' := none) (Ow.of_T h1.under)
  · rw [List.set_eq_of_length_le (by omega)]; exact H
theorem ptrsV_none (ds : List Od) (k : Nat) : (ptrsV (blks ds)).set k (.pointer none) = ptrsV (blks (ds.set k none)) := by
  unfold ptrsV blks
  rw [List.map_set, List.map_set]; rfl
theorem intsI_set (l : List Int) (k : Nat) (x : Int) : (intsI l).set k (.int .i64 x) = intsI (l.set k x) := by
  unfold intsI
  rw [List.map_set]
/-- two texts are pushed -/
theorem push2_ow {h : Kd} {F : List Nat} {w0 w : World} {X Δ : List A} {g : Option Nat} {n cap : Nat} {xs : List Value} {u v : Value} (H : Ow h F w0 w X) (hk : Pick (rowP 9 1 g n cap xs) X Δ) (hu : u.oneCell' = true) (hv : v.oneCell' = true) (hn : n ≤ 1000000) {K : Option Addr → Nat → Nat → World → Prop} (hK : ∀ g' cap' w', Ow h F w0 w' (rowP 9 1 g' (n + 2) cap' (xs ++ [u, v]) :: Δ) → K (ptr g') (n + 2) cap' w') :
    Alloc #[u, v] 9 w fun k w1 => ∃ (p : Option Addr) (l c : Nat), ∃ w2, (builtin .append #[22, 22] 22 #[false, false] #[.slice (ptr g) n cap, .slice (some ⟨k, 0, none⟩) 2 2]).run Tryz.prog w1 = .ok (.value (.slice p l c)) w2 ∧ K p l c w2 := by
  obtain ⟨Y, hY, hT⟩ := H
  refine Alloc.t hT fun k w1 hT1 => ?_
  obtain ⟨g', cap', w', hr, hT'⟩ := append_t (P := Tryz.prog) (t := 22) (e := 9) (i := Tryz.t9) (z := .string (ByteArray.mk #[])) (size := 1) (ty := 22) #[false, false] (by kernel_rfl) (by kernel_rfl) (by kernel_rfl) (by kernel_rfl) (by kernel_rfl) hT1 (.tail (hk.app Y)) (a := ⟨k, 0, none⟩) (m := 2) (c := 2) (news := [u, v]) rfl (fun j x hx => by
      rw [addr_add, Nat.zero_add]
      exact hT1.ld (by repeat (first | exact List.Mem.head _ | refine List.Mem.tail _ ?_)) (by simpa using hx)) (fun x hx => by
      rcases List.mem_cons.1 hx with rfl | hx
      · exact hu
      · obtain rfl := List.mem_singleton.1 hx; exact hv) (by simp only [maxLen]; omega) (by
      have : (Tryz.t9).bytes = 16 := by kernel_rfl
      rw [this]; omega)
  exact ⟨_, _, _, w', hr, hK g' cap' w' ⟨Y, hY, T.drop (hT'.swap (.swap _ _ _))⟩⟩
def fulT (x : ByteArray) : Txt := (fullB x).data.toList
theorem fulT_len (x : ByteArray) : (fulT x).length = 64 := by
  have : ((fullB x).data.toList).length = (fullB x).size := by rw [Array.length_toList]; rfl
  exact this.trans (fullB_size x)
/-- the data of a row, filled up -/
def dtL (l : List ByteArray) (i : Nat) : List Txt := (List.range i).map fun j => fulT (l.getD j noB)
theorem dtL_len (l : List ByteArray) (i : Nat) : (dtL l i).length = i := by simp [dtL]
theorem dtL_succ (l : List ByteArray) (i : Nat) : txts (dtL l i) ++ [.string (fullB (l.getD i noB))] = txts (dtL l (i + 1)) := by
  unfold dtL txts
  rw [List.range_succ]
  simp [fulT]
theorem dtL_all (l : List ByteArray) (i : Nat) : AllLen (dtL l i) 64 := fun j hj => by
  rw [dtL_len] at hj
  unfold dtL
  rw [List.getD_eq_getElem?_getD, List.getElem?_map, List.getElem?_range hj]
  exact fulT_len _
def gof (g0 g1 : Nat) : Nat → Nat → Bool
  | 0 => fun _ => false
  | i + 1 => fun j => j == (if i = 0 then g0 else g1) || gof g0 g1 i j
theorem gof_two {g0 g1 j : Nat} : gof g0 g1 2 j = (j == g1 || (j == g0 || false)) := rfl
open Classical in
/-- the error of what can't be filled, and what can -/
theorem RowSt.sect {s : RwS} {ds : List Od} {bu : List Int} {N : Nat} {row sec : Int} {V : Nat → Txt} {G : Nat → Bool} (h : RowSt s ds bu N row sec V G) {off : Int} (hr : 0 ≤ row ∧ row < s.r) (ho : 0 ≤ off ∧ off < s.k) (he : sec = sectorG s.c s.k s.r row off) {L : List Txt} {c : Nat} (hc : s.c = (c : Int)) (hL : L.length = c) (hG : GoodL L 64) (hV : ∀ i : Nat, i < c → L.getD i [] = V (colR s row i).toNat) :
    filR s ds bu row off = (if (misL (fun i => G (colR s row i).toNat) c).length ≤ 2 then .ok (L, misL (fun i => G (colR s row i).toNat) c) else .error 60) ∧
    ∀ i : Nat, (i : Int) < s.c - 2 → sectR s ds bu row off i = if G (colR s row i).toNat = true ∧ 2 < (misL (fun i => G (colR s row i).toNat) c).length then (noB, 60) else (strB (L.getD i []), 0) := by
  obtain ⟨h0, hs, hR⟩ := h.read hr ho he hc hL hV
  have hok := lost_ok hG (fun i => G (colR s row i).toNat)
  rw [hL] at hok
  have hfi : filR s ds bu row off = (if (misL (fun i => G (colR s row i).toNat) c).length ≤ 2 then .ok (L, misL (fun i => G (colR s row i).toNat) c) else .error 60) := by
    unfold filR
    rw [hR]
    show (if OkM _ _ then _ else _) = _
    rw [if_pos hok]
    by_cases h2 : (misL (fun i => G (colR s row i).toNat) c).length ≤ 2
    · rw [if_pos h2, if_pos h2]
      have := lost_fill hG (fun i => G (colR s row i).toNat) (by rw [hL]; exact h2)
      rw [hL] at this
      rw [this]
    · rw [if_neg h2, if_neg h2]
  refine ⟨hfi, fun i hi => ?_⟩
  unfold sectR
  rw [if_neg (by omega), if_neg (by omega), hs i (by omega), hfi]
  cases hg : G (colR s row i).toNat with
  | false =>
    simp only [Bool.false_eq_true, if_false, false_and]
    rw [if_pos (by decide)]
  | true =>
    rw [if_pos rfl, if_neg (by decide)]
    by_cases h2 : (misL (fun i => G (colR s row i).toNat) c).length ≤ 2
    · rw [if_pos h2, if_neg (by omega), Int.toNat_natCast]
    · rw [if_neg h2, if_pos ⟨rfl, by omega⟩]
theorem found16_law {l : List ByteArray} {p : Option Addr} {c0 : Nat} {w : World} (H : strsAt w p l) {a b d n4 n5 n6 n7 : Int} (ha : 0 ≤ a ∧ a ≤ 255) (hb : 0 ≤ b ∧ b ≤ 255) (hd : 0 ≤ d ∧ d ≤ 255) (h4 : 0 ≤ n4 ∧ n4 ≤ 255) (h5 : 0 ≤ n5 ∧ n5 ≤ 255) (h6 : 0 ≤ n6 ∧ n6 ≤ 255) (h7 : 0 ≤ n7 ∧ n7 ≤ 255) :
    Ret Tryz.prog 3 #[.int .u8 a, .int .u8 b, .int .u8 d, .slice p l.length c0, .int .u8 n4, .int .u8 n5, .int .u8 n6, .int .u8 n7] w (.bool true) := by
  refine ret_of (revetmentlaw16_RowFound_calls ?_)
  unfold revetmentlaw16_RowFound
  refine ⟨dec_t fun _ => shown16_end (.refl w), dec_f fun hl10 => ?_⟩
  refine (shown16_spec w).mono fun e w2 ⟨he2, hx2⟩ => ⟨_, he2, no rfl ?_⟩
  refine setup16 ha hb hd hx2 fun gc gk gr N s ds k1 k2 Y w3 e1 e2 e3 hG hgeo hS hH hRX hl hperm m1 H3 => ?_
  obtain ⟨ec, ek, er⟩ := hgeo
  obtain ⟨g1, g2, Z, q1, q2, hpm, mZ⟩ := hperm
  have hgB : (4 ≤ gc ∧ gc ≤ 7) ∧ (1 ≤ gk ∧ gk ≤ 3) ∧ (1 ≤ gr ∧ gr ≤ 6) := by omega
  have H3 : Ow (dsK ds) [] w w3 ([rowP 40 1 (some g1) gc.toNat s.cd (ptrsV (blks ds)), rowP 3 1 (some g2) gc.toNat s.cb (intsI (List.replicate gc.toNat gr))] ++ (blk k2 (rwC s gc.toNat gc.toNat) 30 :: Z)) := by
    refine H3.perm ((List.Perm.cons _ hpm).trans ?_)
    exact (Pick.perm (.tail .head)).trans (List.Perm.cons _ (Pick.perm (.tail .head)))
  have m2 : blk k2 (rwC s gc.toNat gc.toNat) 30 ∈ blk k2 (rwC s gc.toNat gc.toNat) 30 :: Z := (by repeat (first | exact List.Mem.head _ | refine List.Mem.tail _ ?_))
  have m1 : blk k1 #[.int .i64 gc, .int .i64 gk, .int .i64 gr] 25 ∈ blk k2 (rwC s gc.toNat gc.toNat) 30 :: Z := List.mem_cons_of_mem _ mZ
  clear hRX hpm mZ
  generalize blk k2 (rwC s gc.toNat gc.toNat) 30 :: Z = Z at H3 m1 m2
  have c1 : ∀ {h : Kd} {w' : World} {Q : List A}, Ow h [] w w' (Q ++ Z) → w'.cell? ⟨k1, 0, none⟩ = some (.int .i64 gc) ∧ w'.cell? ⟨k1, 1, none⟩ = some (.int .i64 gk) ∧ w'.cell? ⟨k1, 2, none⟩ = some (.int .i64 gr) := fun h' =>
    ⟨h'.ld (List.mem_append_right _ m1) rfl, h'.ld (List.mem_append_right _ m1) rfl, h'.ld (List.mem_append_right _ m1) rfl⟩
  have c2 : ∀ {h : Kd} {w' : World} {Q : List A}, Ow h [] w w' (Q ++ Z) → ∀ i v, (rwC s gc.toNat gc.toNat)[i]? = some v → w'.cell? ⟨k2, i, none⟩ = some v := fun h' i v hv => h'.ld (List.mem_append_right _ m2) hv
  refine ⟨_, (c1 H3).2.2, by omega, _, (c1 H3).2.1, by omega, ?_⟩
  have tm : ∀ {x n : Int}, 0 ≤ x ∧ x ≤ 255 → Int.tmod (IntKind.i64.wrap x) n = x % n := fun {x n} hx => by
    rw [wrap64 x (by omega) (by omega), Int.tmod_eq_emod_of_nonneg hx.1]
  rw [tm hd, tm hb]
  simp only [tm h4, tm h5, tm h6]
  have bR : 0 ≤ d % gr ∧ d % gr < gr := ⟨Int.emod_nonneg _ (by omega), Int.emod_lt_of_pos _ (by omega)⟩
  have bO : 0 ≤ b % gk ∧ b % gk < gk := ⟨Int.emod_nonneg _ (by omega), Int.emod_lt_of_pos _ (by omega)⟩
  generalize d % gr = row at bR
  generalize b % gk = off at bO
  obtain ⟨C, hC⟩ : ∃ C : Nat, gc = (C : Int) := ⟨gc.toNat, by omega⟩
  have hCt : gc.toNat = C := by omega
  have w2 : IntKind.i64.wrap (gc - 2) = gc - 2 := wrap64 _ (by omega) (by omega)
  have hlb : (List.replicate gc.toNat gr).length = gc.toNat := List.length_replicate
  -- the data
  refine Ow.alloc H3 fun k70 w4 H4 => ?_
  have H4 : Ow (dsK ds) [] w w4 (rowP 9 1 (some k70) 0 0 (txts (dtL l 0)) :: ([rowP 40 1 (some g1) gc.toNat s.cd (ptrsV (blks ds)), rowP 3 1 (some g2) gc.toNat s.cb (intsI (List.replicate gc.toNat gr))] ++ Z)) := H4.into fun Y hT hb => hb _ _ (blk_row hT rfl rfl (by decide))
  refine ⟨fun vs w' => ∃ (i : Nat) (g : Option Nat) (cp : Nat), vs = [.slice (ptr g) i cp, .int .i64 (i : Int)] ∧ (i : Int) ≤ gc - 2 ∧ Ow (dsK ds) [] w w' (rowP 9 1 g i cp (txts (dtL l i)) :: ([rowP 40 1 (some g1) gc.toNat s.cd (ptrsV (blks ds)), rowP 3 1 (some g2) gc.toNat s.cb (intsI (List.replicate gc.toNat gr))] ++ Z)), fun vs _ => match vs with | [_, .int _ i] => (gc - 2 - i).toNat | _ => 0, ⟨0, some k70, 0, rfl, by omega, H4⟩, ?_⟩
  rintro vs w5 ⟨i, g, cp, rfl, hi, H5⟩
  refine ⟨_, _, _, _, rfl, _, (c1 (Q := [_, _, _]) H5).1, ?_⟩
  rw [w2]
  refine ⟨dec_t fun hlt => ?_, dec_f fun hge => ?_⟩
  · refine Join.intro fun J hJ => ?_
    have hJ : J [.string (l.getD i noB)] w5 := by
      refine hJ _ _ ⟨_, rfl, dec_t fun _ => shown16_end H5.ext, dec_f fun hs => ?_⟩
      refine (full16_spec _ (by omega) _).mono fun e w6 ⟨he6, hx6⟩ => ⟨_, he6, ?_⟩
      refine push_owN (i := Tryz.t9) (z := .string (ByteArray.mk #[])) (g := g) (by kernel_rfl) (by kernel_rfl) (by kernel_rfl) (by kernel_rfl) (by kernel_rfl) (by kernel_rfl) (H5.quiet hx6) .head rfl (by omega) fun g' cp' w7 H7 => ?_
      rw [dtL_succ] at H7
      refine ⟨⟨i + 1, some g', cp', by rw [wrap64 _ (by omega) (by omega)]; rfl, by omega, H7⟩, ?_⟩
      show (gc - 2 - IntKind.i64.wrap ((i : Int) + 1)).toNat < (gc - 2 - (i : Int)).toNat
      rw [wrap64 _ (by omega) (by omega)]; omega
    refine ⟨dec_t fun hl2 => ?_, dec_f fun hl2 => ?_⟩
    · obtain ⟨a0, ha0, hc0⟩ := H.get (n := (i : Int)) (by omega) (by omega)
      exact ⟨a0, ha0, by omega, by omega, _, cell_ext H5.ext hc0, hJ⟩
    · have : l.getD i noB = ByteArray.mk #[] := by rw [List.getD_eq_getElem?_getD, List.getElem?_eq_none (by omega)]; rfl
      rw [this] at hJ; exact hJ
  have hiC : i = C - 2 := by omega
  subst hiC
  have hs5 := (T.strs H5.under (g := g) (L := dtL l (C - 2)) (n := C - 2) (cap := cp) (by repeat (first | exact List.Mem.head _ | refine List.Mem.tail _ ?_))).1
  have hS5 : Short (dtL l (C - 2)) := fun x hx => by
    obtain ⟨j, hj, rfl⟩ := List.getElem_of_mem hx
    have := dtL_all l (C - 2) j hj
    rw [List.getD_eq_getElem?_getD, List.getElem?_eq_getElem hj] at this
    have this : ((dtL l (C - 2))[j]).length = 64 := this
    omega
  have hP := pR_spec hS5 (by rw [dtL_len]; omega) (c := cp) hs5
  rw [dtL_len] at hP
  refine hP.mono fun e w6 ⟨he6, hx6⟩ => ⟨_, he6, ?_⟩
  have hQ := qR_spec hS5 (by rw [dtL_len]; omega) (c := cp) (hs5.ext hx6)
  rw [dtL_len] at hQ
  refine hQ.mono fun e w7 ⟨he7, hx7⟩ => ⟨_, he7, ?_⟩
  refine push2_ow ((H5.quiet hx6).quiet hx7) .head rfl rfl (by omega) fun gs cs w8 H8 => ?_
  obtain ⟨hGL, hRl⟩ := made_good (dtL_all l (C - 2)) (by rw [dtL_len]; omega) (by rw [dtL_len]; omega)
  have hmk : txts (dtL l (C - 2)) ++ [.string (strB (sumT (dtL l (C - 2)))), .string (strB (qT (dtL l (C - 2))))] = txts (makeF (dtL l (C - 2))) := by unfold txts makeF; simp
  rw [hmk, show C - 2 + 2 = C by omega] at H8
  rw [show C - 2 + 2 = C by omega]
  have hRl : (makeF (dtL l (C - 2))).length = C := by rw [hRl, dtL_len]; omega
  generalize makeF (dtL l (C - 2)) = L at H8 hGL hRl
  clear hP hQ hs5 hS5 hmk he6 he7 H5 H4
  have hL64 : ∀ j, j < C → (strB (L.getD j [])).size = 64 := fun j hj => by rw [strB_size]; exact hGL.all j (by omega)
  -- it is written
  refine ⟨fun vs w' => ∃ (i : Nat) (dw : List Od), vs = [.int .i64 (i : Int)] ∧ i ≤ C ∧ SetOn s dw (List.replicate gc.toNat gr) N ∧ FewL dw i ∧ blks dw = blks ds ∧ (∀ j : Nat, j < i → secR s dw (List.replicate gc.toNat gr) row off j = (strB (L.getD j []), 0)) ∧ Ow (dsK dw) [] w w' ([rowP 9 1 gs C cs (txts L), rowP 40 1 (some g1) gc.toNat s.cd (ptrsV (blks ds)), rowP 3 1 (some g2) gc.toNat s.cb (intsI (List.replicate gc.toNat gr))] ++ Z), fun vs _ => match vs with | [.int _ i] => (gc - i).toNat | _ => 0, ⟨0, ds, rfl, by omega, hS, hH.few 0, rfl, (fun j hj => by omega), H8⟩, ?_⟩
  clear H8 hS hH
  rintro vs w9 ⟨i, dw, rfl, hi, hS, hF, hbl, hsec, H9⟩
  have hlw : dw.length = C := by have := congrArg List.length hbl; rw [blks_len, blks_len] at this; omega
  refine ⟨_, rfl, _, (c1 H9).1, dec_t fun hlt => ?_, dec_f fun hge => ?_⟩
  · have H10 := H9.drew
    have hs10 : ∀ {h : Kd} {w' : World}, Ow h [] w w' ([rowP 9 1 gs C cs (txts L), rowP 40 1 (some g1) gc.toNat s.cd (ptrsV (blks ds)), rowP 3 1 (some g2) gc.toNat s.cb (intsI (List.replicate gc.toNat gr))] ++ Z) → strsL w' (ptr gs) L := fun h' => (T.strs h'.under (g := gs) (L := L) (n := C) (cap := cs) (by repeat (first | exact List.Mem.head _ | refine List.Mem.tail _ ?_))).1
    obtain ⟨a0, ha0, _⟩ := (hs10 H10).get (n := i) (by omega)
    refine ⟨fun w' => ∃ h, Ow h [] w w' ([rowP 9 1 gs C cs (txts L), rowP 40 1 (some g1) gc.toNat s.cd (ptrsV (blks ds)), rowP 3 1 (some g2) gc.toNat s.cb (intsI (List.replicate gc.toNat gr))] ++ Z), ⟨_, H10⟩, ?_⟩
    refine ⟨_, _, _, _, _, _, _, _, _, fun w' ⟨h, h'⟩ => ⟨c2 h' 0 _ rfl, c2 h' 1 _ rfl, c2 h' 2 _ rfl, c2 h' 3 _ rfl, c2 h' 4 _ rfl⟩, ?_⟩
    refine ⟨a0, ha0, by omega, by omega, strB (L.getD i []), fun w' ⟨h, h'⟩ => ?_, ?_⟩
    · obtain ⟨a1, ha1, hc1⟩ := (hs10 h').get (n := i) (by omega)
      rw [ha0] at ha1; cases ha1
      rw [Int.toNat_natCast]; exact hc1
    have hp1 := (T.ptrs H10.under (g := some g1) (t := 40) (n := gc.toNat) (cap := s.cd) (ps := blks ds) (by repeat (first | exact List.Mem.head _ | refine List.Mem.tail _ ?_))).1
    have hp2 := (T.ints H10.under (g := some g2) (n := gc.toNat) (cap := s.cb) (l := List.replicate gc.toNat gr) (by repeat (first | exact List.Mem.head _ | refine List.Mem.tail _ ?_))).1
    have hWr := write16_spec H10 (s := s) (bu := List.replicate gc.toNat gr) (by rw [q1, hbl]; exact hp1) (by rw [q2]; exact hp2) (by omega) (hF.mono (by omega)) row off i (strB (L.getD i []))
    obtain ⟨pd, ad, hk, hon, hput, hwE, hwD⟩ := hS.write (row := row) (off := off) (role := (i : Int)) (by omega) (by omega) (by omega) (hL64 i (by omega))
    rw [hlw.trans hCt.symm, hlb, hwE, hwD] at hWr
    refine hWr.mono fun e w11 ⟨he11, H11⟩ => ⟨_, he11, ⟨_, H11⟩, no rfl ?_⟩
    refine ⟨⟨i + 1, _, by rw [wrap64 _ (by omega) (by omega)]; rfl, by omega, hS.set (hon.write _ _), ?_, (blks_set hk).trans hbl, fun j hj => ?_, H11⟩, ?_⟩
    · exact (hF.mono (Nat.le_succ i)).set ((hF pd ad (List.mem_of_getElem? hk)).write _ _)
    · have hc' := colR_nat hS.ok (row := row) (role := (i : Int)) (by omega) (by omega)
      have hlt' : (colR s row i).toNat < dw.length := by omega
      rw [secR_col]
      unfold secC
      rw [hS.buGet (by have := (colR_nat hS.ok (row := row) (role := (j : Int)) (by omega) (by omega)).2; omega), if_neg (by omega), thereO_set hlt']
      by_cases e : j = i
      · subst e
        rw [if_pos rfl]
        show (match (if (ad.write (sectorG s.c s.k s.r row off) (strB (L.getD j []))).dead = true then none else some (pd, ad.write (sectorG s.c s.k s.r row off) (strB (L.getD j [])))) with | some x => x.2.read (sectorG s.c s.k s.r row off) | none => (noB, 41)) = _
        have hw := hon.write (sectorG s.c s.k s.r row off) (strB (L.getD j []))
        rw [hw.dead]
        exact write_read hon (by have := sectorG_in hS.ok (row := row) (off := off) (by omega) (by omega); have := hS.size; omega) (hL64 j (by omega))
      · rw [if_neg fun h => e (by
          have := colR_inj hS.ok (row := row) (a := (j : Int)) (b := (i : Int)) (by omega) (by omega) (by omega) (by
            have h1 := (colR_nat hS.ok (row := row) (role := (j : Int)) (by omega) (by omega)).1
            have h2 := hc'.1
            omega)
          omega)]
        have := hsec j (by omega)
        rw [secR_col] at this
        unfold secC at this
        rw [hS.buGet (by have := (colR_nat hS.ok (row := row) (role := (j : Int)) (by omega) (by omega)).2; omega), if_neg (by omega)] at this
        exact this
    · show (gc - IntKind.i64.wrap ((i : Int) + 1)).toNat < (gc - (i : Int)).toNat
      rw [wrap64 _ (by omega) (by omega)]; omega
  obtain rfl : i = C := by omega
  -- what the columns have
  have hst : RowSt s dw (List.replicate gc.toNat gr) N row (sectorG s.c s.k s.r row off) (fun c => (secC dw (List.replicate gc.toNat gr) row (sectorG s.c s.k s.r row off) c).1.data.toList) (gof 0 0 0) := by
    refine ⟨hS.ok, hS.len, by rw [hlb]; omega, hS.size, fun j hj => ?_, fun j hj => ?_⟩
    · obtain ⟨pp, aa, hk, hon⟩ := hS.on j hj
      exact .inr ⟨pp, aa, hk, hon.power, hon.len, (hF pp aa (List.mem_of_getElem? hk)).mono (by omega)⟩
    · obtain ⟨r, hr1, hr2⟩ := colR_surj hS.ok (row := row) (by omega) (g := j) (by omega)
      have := hsec r (by omega)
      rw [secR_col, hr2] at this
      show _ = (_, 0)
      rw [this]
  have hV : ∀ r : Nat, r < i → L.getD r [] = (secC dw (List.replicate gc.toNat gr) row (sectorG s.c s.k s.r row off) (colR s row r).toNat).1.data.toList := fun r hr => by
    have := hsec r hr
    rw [secR_col] at this
    rw [this]
  generalize hVV : (fun c => (secC dw (List.replicate gc.toNat gr) row (sectorG s.c s.k s.r row off) c).1.data.toList) = V at hst
  have hV : ∀ r : Nat, r < i → L.getD r [] = V (colR s row r).toNat := fun r hr => by rw [← hVV]; exact hV r hr
  clear hVV hsec
  have hcc : s.c = (i : Int) := by omega
  have hok := hS.ok
  have hrow : 0 ≤ row ∧ row < s.r := by omega
  have hoff : 0 ≤ off ∧ off < s.k := by omega
  have hsecB := sectorG_in hok hrow hoff
  have hsize := hS.size
  clear hS hF
  have b4 : 0 ≤ n4 % gc ∧ n4 % gc < gc := ⟨Int.emod_nonneg _ (by omega), Int.emod_lt_of_pos _ (by omega)⟩
  have b5 : 0 ≤ n5 % gc ∧ n5 % gc < gc := ⟨Int.emod_nonneg _ (by omega), Int.emod_lt_of_pos _ (by omega)⟩
  have b6 : 0 ≤ n6 % gc ∧ n6 % gc < gc := ⟨Int.emod_nonneg _ (by omega), Int.emod_lt_of_pos _ (by omega)⟩
  refine ⟨fun w' => w'.cell? ⟨k1, 0, none⟩ = some (.int .i64 gc), (c1 H9.drew).1, _, fun _ h => h, by omega, _, fun _ h => h, by omega, ?_⟩
  generalize n4 % gc = y0 at b4
  generalize n5 % gc = y1 at b5
  generalize hy2 : n6 % gc = y2 at b6
  obtain ⟨c0', rfl⟩ : ∃ x : Nat, y0 = (x : Int) := ⟨y0.toNat, by omega⟩
  obtain ⟨c1', rfl⟩ : ∃ x : Nat, y1 = (x : Int) := ⟨y1.toNat, by omega⟩
  obtain ⟨c2', hc2'⟩ : ∃ x : Nat, y2 = (x : Int) := ⟨y2.toNat, by omega⟩
  rw [hc2'] at hy2 b6
  refine Ow.alloc H9.drew fun k128 w10 H10 => ⟨(c1 (Q := [_, _, _, _]) H10).1, ?_⟩
  rw [← hbl] at H10
  have H10 : Ow (dsK dw) [] w w10 ([rowP 40 1 (some g1) gc.toNat s.cd (ptrsV (blks dw)), rowP 3 1 (some g2) gc.toNat s.cb (intsI (List.replicate gc.toNat gr)), blk k128 #[.int .i64 (c0' : Int), .int .i64 (c1' : Int)] 3, rowP 9 1 gs i cs (txts L)] ++ Z) := by
    refine H10.perm ?_
    exact (Pick.perm (.tail (.tail .head))).trans (List.Perm.cons _ ((Pick.perm (.tail (.tail .head))).trans (List.Perm.refl _)))
  have hw7 : 0 ≤ IntKind.i64.wrap n7 ∧ IntKind.i64.wrap n7 = n7 := by rw [wrap64 n7 (by omega) (by omega)]; omega
  rw [hw7.2]
  refine ⟨fun vs w' => ∃ (m : Nat) (du : List Od) (bu : List Int), vs = [.int .i64 (m : Int)] ∧ m ≤ 2 ∧ RowSt s du bu N row (sectorG s.c s.k s.r row off) V (gof c0' c1' m) ∧ Ow (dsK du) [] w w' ([rowP 40 1 (some g1) gc.toNat s.cd (ptrsV (blks du)), rowP 3 1 (some g2) gc.toNat s.cb (intsI bu), blk k128 #[.int .i64 (c0' : Int), .int .i64 (c1' : Int)] 3, rowP 9 1 gs i cs (txts L)] ++ Z), fun vs _ => match vs with | [.int _ m] => (2 - m).toNat | _ => 0, ⟨0, dw, _, rfl, by omega, hst, H10⟩, ?_⟩
  clear hst H10 H9
  rintro vs w11 ⟨m, du, bu, rfl, hm, hst, H11⟩
  have hldu : du.length = i := by have := hst.len; omega
  have hlbu : bu.length = i := by have := hst.bl; omega
  refine ⟨_, rfl, dec_t fun hlt => ?_, dec_f fun hge => ?_⟩
  · have hm2 : m < 2 := by omega
    obtain ⟨g, hg, hgi, hgo⟩ : ∃ g : Nat, (#[Value.int .i64 (c0' : Int), .int .i64 (c1' : Int)] : Array Value)[0 + m * 1]? = some (.int .i64 (g : Int)) ∧ g < i ∧ gof c0' c1' (m + 1) = fun j => j == g || gof c0' c1' m j := by
      rcases (by omega : m = 0 ∨ m = 1) with rfl | rfl
      · exact ⟨c0', rfl, by omega, rfl⟩
      · exact ⟨c1', rfl, by omega, rfl⟩
    have hnext : IntKind.i64.wrap ((m : Int) + 1) = ((m + 1 : Nat) : Int) := by rw [wrap64 _ (by omega) (by omega)]; rfl
    have hmes : ((2 : Int) - IntKind.i64.wrap ((m : Int) + 1)).toNat < ((2 : Int) - (m : Int)).toNat := by rw [wrap64 _ (by omega) (by omega)]; omega
    have hcg : ∀ {h : Kd} {w' : World} {Q R : List A}, Ow h [] w w' (Q ++ blk k128 #[.int .i64 (c0' : Int), .int .i64 (c1' : Int)] 3 :: R) → w'.cell? (Addr.add ⟨k128, 0, none⟩ ((m : Int).toNat * 1)) = some (.int .i64 (g : Int)) := fun h' => by
      rw [Int.toNat_natCast]
      exact h'.under.ldA (List.mem_append_right _ List.mem_cons_self) hg
    have hcd : ∀ {h : Kd} {w' : World} {R : List A} {y : Od}, du[g]? = some y → Ow h [] w w' (rowP 40 1 (some g1) gc.toNat s.cd (ptrsV (blks du)) :: R) → w'.cell? (Addr.add ⟨g1, 0, none⟩ ((g : Int).toNat * 1)) = some (.pointer (ptr (odB y))) := fun hy h' => by
      obtain ⟨a1, ha1, hc1⟩ := (T.ptrs h'.under (g := some g1) (t := 40) (n := gc.toNat) (cap := s.cd) (ps := blks du) List.mem_cons_self).1.get (blks_get hy)
      cases ha1
      rw [Int.toNat_natCast]; exact hc1
    have hgl : g < du.length := by omega
    have hy : du[g]? = some du[g] := List.getElem?_eq_getElem hgl
    have hq4 : IntKind.i64.wrap (n7 + (m : Int)) = n7 + (m : Int) := wrap64 _ (by omega) (by omega)
    rw [hq4, Int.tmod_eq_emod_of_nonneg (by omega)]
    have hq : 0 ≤ (n7 + (m : Int)) % 4 ∧ (n7 + (m : Int)) % 4 < 4 := ⟨Int.emod_nonneg _ (by omega), Int.emod_lt_of_pos _ (by omega)⟩
    generalize (n7 + (m : Int)) % 4 = how at hq
    refine ⟨beq_t fun e0 => ?_, beq_f fun e0 => ⟨beq_t fun e1 => ?_, beq_f fun e1 => ⟨beq_t fun e2 => ?_, beq_f fun e2 => ⟨beq_t fun e3 => ?_, beq_f fun e3 => by omega⟩⟩⟩⟩
    · refine ⟨fun w' => w' = w11.drew, rfl, _, _, _, fun w' hw' => by rw [hw']; exact c2 (Q := [_, _, _, _]) H11.drew 3 _ rfl, _, rfl, by omega, by omega, _, fun w' hw' => by rw [hw']; exact hcg (Q := [_, _]) H11.drew, ⟨g1, 0, none⟩, q1, by omega, by omega, ?_⟩
      rw [Int.toNat_natCast]
      refine Ow.stRow (Ow.forget H11.drew g) .head (by rw [ptrsV_len, blks_len]; omega) rfl fun w12 H12 => ?_
      rw [ptrsV_none] at H12
      exact ⟨⟨m + 1, _, bu, by rw [hnext], by omega, by rw [hgo]; exact hst.set hgl (.inl rfl), H12⟩, hmes⟩
    · refine ⟨fun w' => w' = w11.drew, rfl, _, _, _, fun w' hw' => by rw [hw']; exact c2 (Q := [_, _, _, _]) H11.drew 4 _ rfl, _, rfl, by omega, by omega, _, fun w' hw' => by rw [hw']; exact hcg (Q := [_, _]) H11.drew, ⟨g2, 0, none⟩, q2, by omega, by omega, ?_⟩
      rw [Int.toNat_natCast]
      refine Ow.stRow H11.drew (.tail .head) (by rw [intsI_len]; omega) rfl fun w12 H12 => ?_
      rw [intsI_set] at H12
      exact ⟨⟨m + 1, du, _, by rw [hnext], by omega, by rw [hgo]; exact hst.unbuilt hgl, H12.perm (.swap _ _ _)⟩, hmes⟩
    · refine ⟨fun w' => w' = w11.drew, rfl, _, _, _, fun w' hw' => by rw [hw']; exact c2 (Q := [_, _, _, _]) H11.drew 3 _ rfl, _, rfl, by omega, by omega, _, fun w' hw' => by rw [hw']; exact hcg (Q := [_, _]) H11.drew, ⟨g1, 0, none⟩, q1, by omega, by omega, _, fun w' hw' => by rw [hw']; exact hcd hy H11.drew, ?_⟩
      cases hdu : du[g] with
      | none =>
        rw [hdu] at hy
        exact no rfl ⟨⟨m + 1, du, bu, by rw [hnext], by omega, by rw [hgo]; exact hst.gone hy, H11.drew⟩, hmes⟩
      | some x =>
        obtain ⟨pp, aa⟩ := x
        rw [hdu] at hy
        refine yes rfl ⟨fun w' => w' = w11.drew.drew, rfl, _, _, _, fun w' hw' => by rw [hw']; exact c2 (Q := [_, _, _, _]) H11.drew.drew 3 _ rfl, _, rfl, by omega, by omega, _, fun w' hw' => by rw [hw']; exact hcg (Q := [_, _]) H11.drew.drew, ⟨g1, 0, none⟩, q1, by omega, by omega, _, fun w' hw' => by rw [hw']; exact hcd hy H11.drew.drew, _, fun w' hw' => by rw [hw']; exact (c1 (Q := [_, _, _, _]) H11.drew.drew).2.1, ?_⟩
        have hmk : 0 ≤ row * gk ∧ row * gk ≤ 100 := by
          have h1 := Int.mul_nonneg bR.1 (show 0 ≤ gk by omega)
          have h2 := Int.mul_le_mul (show row ≤ 10 by omega) (show gk ≤ 10 by omega) (by omega) (by omega)
          omega
        have hsc : IntKind.i64.wrap (IntKind.i64.wrap (4 + IntKind.i64.wrap (row * gk)) + off) = sectorG s.c s.k s.r row off := by
          rw [wrap64 (row * gk) (by omega) (by omega), wrap64 (4 + row * gk) (by omega) (by omega), wrap64 (4 + row * gk + off) (by omega) (by omega), sectorG_v hok hrow hoff, ek, Int.mul_comm]
        rw [hsc]
        refine (Ow.onDrive H11.drew.drew hy fun Z' hZ => spoil_a hZ _).mono fun e w12 ⟨he12, H12⟩ => ⟨_, he12, ?_⟩
        rw [← blks_set (b := aa.spoil (sectorG s.c s.k s.r row off)) hy] at H12
        exact ⟨⟨m + 1, _, bu, by rw [hnext], by omega, by rw [hgo]; exact hst.spoiled (by omega) hy, H12⟩, hmes⟩
    · refine ⟨fun w' => w' = w11.drew, rfl, _, _, _, fun w' hw' => by rw [hw']; exact c2 (Q := [_, _, _, _]) H11.drew 3 _ rfl, _, rfl, by omega, by omega, _, fun w' hw' => by rw [hw']; exact hcg (Q := [_, _]) H11.drew, ⟨g1, 0, none⟩, q1, by omega, by omega, _, fun w' hw' => by rw [hw']; exact hcd hy H11.drew, ?_⟩
      cases hdu : du[g] with
      | none =>
        rw [hdu] at hy
        exact no rfl ⟨⟨m + 1, du, bu, by rw [hnext], by omega, by rw [hgo]; exact hst.gone hy, H11.drew⟩, hmes⟩
      | some x =>
        obtain ⟨pp, aa⟩ := x
        rw [hdu] at hy
        refine yes rfl ⟨fun w' => w' = w11.drew.drew, rfl, _, _, _, fun w' hw' => by rw [hw']; exact c2 (Q := [_, _, _, _]) H11.drew.drew 3 _ rfl, _, rfl, by omega, by omega, _, fun w' hw' => by rw [hw']; exact hcg (Q := [_, _]) H11.drew.drew, ⟨g1, 0, none⟩, q1, by omega, by omega, _, fun w' hw' => by rw [hw']; exact hcd hy H11.drew.drew, ?_⟩
        refine (Ow.onDrive H11.drew.drew hy fun Z' hZ => die_a hZ).mono fun e w12 ⟨he12, H12⟩ => ⟨he12, ?_⟩
        rw [← blks_set (b := aa.die) hy] at H12
        exact ⟨⟨m + 1, _, bu, by rw [hnext], by omega, by rw [hgo]; exact hst.died hy, H12⟩, hmes⟩
  obtain rfl : m = 2 := by omega
  -- the data are found
  have rdW : ∀ {du : List Od} {bu : List Int} {w' : World} {Q : List A}, Ow (dsK du) [] w w' (Q ++ ([rowP 40 1 (some g1) gc.toNat s.cd (ptrsV (blks du)), rowP 3 1 (some g2) gc.toNat s.cb (intsI bu), blk k128 #[.int .i64 (c0' : Int), .int .i64 (c1' : Int)] 3, rowP 9 1 gs i cs (txts L)] ++ Z)) → RwW s du bu w' := fun {du bu w' Q} h' => by
    refine ⟨⟨_, _, _, h'⟩, ?_, ?_⟩
    · rw [q1]; exact (T.ptrs h'.under (g := some g1) (t := 40) (n := gc.toNat) (cap := s.cd) (ps := blks du) (List.mem_append_right _ (by repeat (first | exact List.Mem.head _ | refine List.Mem.tail _ ?_)))).1
    · rw [q2]; exact (T.ints h'.under (g := some g2) (n := gc.toNat) (cap := s.cb) (l := bu) (List.mem_append_right _ (by repeat (first | exact List.Mem.head _ | refine List.Mem.tail _ ?_)))).1
  have rdL : ∀ {h : Kd} {du : List Od} {bu : List Int} {w' : World} {Q : List A} {j : Nat}, j < i → Ow h [] w w' (Q ++ ([rowP 40 1 (some g1) gc.toNat s.cd (ptrsV (blks du)), rowP 3 1 (some g2) gc.toNat s.cb (intsI bu), blk k128 #[.int .i64 (c0' : Int), .int .i64 (c1' : Int)] 3, rowP 9 1 gs i cs (txts L)] ++ Z)) → ∃ a0, ptr gs = some a0 ∧ w'.cell? (Addr.add a0 ((j : Int).toNat * 1)) = some (.string (strB (L.getD j []))) := fun {h du bu w' Q j} hj h' => by
    obtain ⟨a0, ha0, hc0⟩ := (T.strs h'.under (g := gs) (L := L) (n := i) (cap := cs) (List.mem_append_right _ (by repeat (first | exact List.Mem.head _ | refine List.Mem.tail _ ?_)))).1.get (n := j) (by omega)
    exact ⟨a0, ha0, by rw [Int.toNat_natCast]; exact hc0⟩
  have hinj : ∀ a b : Nat, a < i → b < i → (colR s row a).toNat = (colR s row b).toNat → a = b := fun a b h1 h2 e => by
    have e1 := colR_nat hok hrow (role := (a : Int)) (by omega)
    have e2 := colR_nat hok hrow (role := (b : Int)) (by omega)
    have := colR_inj hok hrow (a := (a : Int)) (b := (b : Int)) (by omega) (by omega) (by omega)
    omega
  obtain ⟨hfil, hsect⟩ := hst.sect hrow hoff rfl hcc hRl hGL hV
  have hfew2 : (misL (fun r => gof c0' c1' 2 (colR s row r).toNat) i).length ≤ 2 := misL_most (S := [c1', c0']) hinj fun r hr hg => by
    rw [gof_two] at hg
    simp at hg ⊢
    exact hg
  refine ⟨fun vs w' => ∃ j : Nat, vs = [.int .i64 (j : Int)] ∧ (j : Int) ≤ gc - 2 ∧ Ow (dsK du) [] w w' ([rowP 40 1 (some g1) gc.toNat s.cd (ptrsV (blks du)), rowP 3 1 (some g2) gc.toNat s.cb (intsI bu), blk k128 #[.int .i64 (c0' : Int), .int .i64 (c1' : Int)] 3, rowP 9 1 gs i cs (txts L)] ++ Z), fun vs _ => match vs with | [.int _ j] => (gc - 2 - j).toNat | _ => 0, ⟨0, rfl, by omega, H11⟩, ?_⟩
  clear H11
  rintro vs w12 ⟨j, rfl, hj, H12⟩
  refine ⟨_, rfl, _, (c1 (Q := [_, _, _, _]) H12).1, ?_⟩
  rw [w2]
  refine ⟨dec_t fun hlt => ?_, dec_f fun hge => ?_⟩
  · refine ⟨_, _, _, _, _, _, _, _, _, ⟨c2 (Q := [_, _, _, _]) H12 0 _ rfl, c2 (Q := [_, _, _, _]) H12 1 _ rfl, c2 (Q := [_, _, _, _]) H12 2 _ rfl, c2 (Q := [_, _, _, _]) H12 3 _ rfl, c2 (Q := [_, _, _, _]) H12 4 _ rfl⟩, ?_⟩
    have hSe := set16_spec (rdW (Q := []) H12) (by omega) hst.few row off j
    rw [hldu, hlbu, hsect j (by omega), if_neg (by omega), ← hCt] at hSe
    refine hSe.mono fun e w13 ⟨he13, hx13⟩ => ⟨_, _, he13, no rfl ?_⟩
    obtain ⟨a0, ha0, hc0⟩ := rdL (Q := []) (j := j) (by omega) (H12.quiet hx13)
    refine ⟨a0, ha0, by omega, by omega, _, hc0, no (by simp) ⟨⟨j + 1, by rw [wrap64 _ (by omega) (by omega)]; rfl, by omega, H12.quiet hx13⟩, ?_⟩⟩
    show (gc - 2 - IntKind.i64.wrap ((j : Int) + 1)).toNat < (gc - 2 - (j : Int)).toNat
    rw [wrap64 _ (by omega) (by omega)]; omega
  -- a third one
  have hc2l : c2' < i := by omega
  refine ⟨_, (c1 (Q := [_, _, _, _]) H12).1, by omega, ?_⟩
  rw [hy2]
  have hk0 : ∀ {h : Kd} {w' : World} {Q R : List A}, Ow h [] w w' (Q ++ blk k128 #[.int .i64 (c0' : Int), .int .i64 (c1' : Int)] 3 :: R) → w'.cell? ⟨k128, 0, none⟩ = some (.int .i64 (c0' : Int)) := fun h' => h'.ld (List.mem_append_right _ List.mem_cons_self) rfl
  have hk1 : ∀ {h : Kd} {w' : World} {Q R : List A}, Ow h [] w w' (Q ++ blk k128 #[.int .i64 (c0' : Int), .int .i64 (c1' : Int)] 3 :: R) → w'.cell? (Addr.add ⟨k128, 0, none⟩ 1) = some (.int .i64 (c1' : Int)) := fun h' => h'.under.ldA (List.mem_append_right _ List.mem_cons_self) rfl
  have H12 := H12.drew
  refine ⟨fun w' => w' = w12.drew, rfl, _, rfl, by omega, by omega, _, fun w' hw' => by rw [hw']; exact hk0 (Q := [_, _]) H12, beq_t fun _ => ⟨trivial, H12.ext⟩, beq_f fun ne0 => ?_⟩
  refine ⟨_, rfl, by omega, by omega, _, fun w' hw' => by rw [hw']; exact hk1 (Q := [_, _]) H12, beq_t fun _ => ⟨trivial, H12.ext⟩, beq_f fun ne1 => ?_⟩
  refine ⟨_, rfl, by omega, by omega, _, fun w' hw' => by rw [hw']; exact hk0 (Q := [_, _]) H12, _, rfl, by omega, by omega, _, fun w' hw' => by rw [hw']; exact hk1 (Q := [_, _]) H12, beq_t fun _ => ⟨trivial, H12.ext⟩, beq_f fun ne01 => ?_⟩
  refine ⟨_, _, _, c2 (Q := [_, _, _, _]) H12 3 _ rfl, ⟨g1, 0, none⟩, q1, by omega, by omega, ?_⟩
  rw [Int.toNat_natCast]
  refine Ow.stRow (Ow.forget H12 c2') .head (by rw [ptrsV_len, blks_len]; omega) rfl fun w13 H13 => ?_
  rw [ptrsV_none] at H13
  have hst := hst.set (i := c2') (y := none) (by omega) (.inl rfl)
  clear hfil hsect
  obtain ⟨h0, hsr, hread⟩ := hst.read hrow hoff rfl hcc hRl hV
  obtain ⟨hfil, hsect⟩ := hst.sect hrow hoff rfl hcc hRl hGL hV
  have hmem : ∀ g : Nat, g < i → ((g == c2' || gof c0' c1' 2 g) = true) → ∃ r : Nat, r < i ∧ (colR s row r).toNat = g ∧ (r : Int) ∈ misL (fun r => ((colR s row r).toNat == c2' || gof c0' c1' 2 (colR s row r).toNat)) i := fun g hg hgg => by
    obtain ⟨r, hr1, hr2⟩ := colR_surj hok hrow (g := g) (by omega)
    exact ⟨r, by omega, hr2, misL_mem.2 ⟨r, rfl, by omega, by rw [hr2]; exact hgg⟩⟩
  obtain ⟨r0, a0, b0, m0⟩ := hmem c0' (by omega) (by rw [gof_two]; simp)
  obtain ⟨r1, a1, b1, m1'⟩ := hmem c1' (by omega) (by rw [gof_two]; simp)
  obtain ⟨r2, a2, b2, m2'⟩ := hmem c2' (by omega) (by simp)
  have hge3 := three_in m0 m1' m2' (by intro e; have : r0 = r1 := by omega
                                       subst this; omega) (by intro e; have : r0 = r2 := by omega
                                                              subst this; omega) (by intro e; have : r1 = r2 := by omega
                                                                                     subst this; omega)
  have hle3 : (misL (fun r => ((colR s row r).toNat == c2' || gof c0' c1' 2 (colR s row r).toNat)) i).length ≤ 3 := misL_most (S := [c2', c1', c0']) hinj fun r hr hg => by
    rw [gof_two] at hg
    simp at hg ⊢
    exact hg
  have hmisM : ∀ r : Nat, r < i → ((r : Int) ∈ misL (fun r => ((colR s row r).toNat == c2' || gof c0' c1' 2 (colR s row r).toNat)) i ↔ ((colR s row r).toNat == c2' || gof c0' c1' 2 (colR s row r).toNat) = true) := fun r hr => by
    rw [misL_mem]
    constructor
    · rintro ⟨r', e, _, h⟩
      have : r = r' := by omega
      subst this; exact h
    · intro h; exact ⟨r, rfl, hr, h⟩
  generalize misL (fun r => ((colR s row r).toNat == c2' || gof c0' c1' 2 (colR s row r).toNat)) i = lost at hread hfil hsect hge3 hle3 hmisM
  have hlen : lost.length = 3 := by omega
  obtain ⟨XL, hread⟩ : ∃ XL, readR s (du.set c2' none) bu row off = .ok (XL, lost) := ⟨_, hread⟩
  rw [if_neg (by omega)] at hfil
  have hld3 : (du.set c2' none).length = i := by rw [List.length_set]; exact hldu
  refine ⟨_, _, _, _, _, _, _, _, _, ⟨c2 (Q := [_, _, _, _]) H13 0 _ rfl, c2 (Q := [_, _, _, _]) H13 1 _ rfl, c2 (Q := [_, _, _, _]) H13 2 _ rfl, c2 (Q := [_, _, _, _]) H13 3 _ rfl, c2 (Q := [_, _, _, _]) H13 4 _ rfl⟩, ?_⟩
  have hR := read16_spec (rdW (Q := []) H13) (by omega) hst.few row off
  rw [hld3, hlbu, hread, ← hCt] at hR
  refine hR.mono fun e w14 ⟨v, he14, gx, cx, gl, cl', hv, hT14⟩ => ?_
  subst hv
  have H14 := Ow.new H13 hT14
  refine ⟨_, _, _, _, _, _, _, he14, ?_⟩
  refine ⟨_, _, _, _, _, _, _, _, _, ⟨c2 (Q := [_, _, _, _, _, _]) H14 0 _ rfl, c2 (Q := [_, _, _, _, _, _]) H14 1 _ rfl, c2 (Q := [_, _, _, _, _, _]) H14 2 _ rfl, c2 (Q := [_, _, _, _, _, _]) H14 3 _ rfl, c2 (Q := [_, _, _, _, _, _]) H14 4 _ rfl⟩, ?_⟩
  have hFi := filled16_spec (rdW (Q := [_, _]) H14) (by omega) hst.few row off
  rw [hld3, hlbu, hfil, ← hCt] at hFi
  refine hFi.mono fun e w15 ⟨v, he15, hv, hx15⟩ => ?_
  subst hv
  have H15 := H14.quiet hx15
  refine ⟨_, _, _, _, _, _, _, he15, no rfl (no (by rw [hlen]; rfl) (no rfl ?_))⟩
  refine ⟨fun vs w' => ∃ j : Nat, vs = [.int .i64 (j : Int)] ∧ (j : Int) ≤ gc - 2 ∧ Ow (dsK (du.set c2' none)) [] w w' ([rowP 9 1 gx XL.length cx (txts XL), rowP 3 1 gl lost.length cl' (intsI lost)] ++ ([rowP 40 1 (some g1) gc.toNat s.cd (ptrsV (blks (du.set c2' none))), rowP 3 1 (some g2) gc.toNat s.cb (intsI bu), blk k128 #[.int .i64 (c0' : Int), .int .i64 (c1' : Int)] 3, rowP 9 1 gs i cs (txts L)] ++ Z)), fun vs _ => match vs with | [.int _ j] => (gc - 2 - j).toNat | _ => 0, ⟨0, rfl, by omega, H15⟩, ?_⟩
  clear H15 H14 H13 H12
  rintro vs w16 ⟨j, rfl, hj, H16⟩
  refine ⟨_, rfl, _, (c1 (Q := [_, _, _, _, _, _]) H16).1, ?_⟩
  rw [w2]
  refine ⟨dec_t fun hlt => ?_, dec_f fun hge => ⟨trivial, H16.ext⟩⟩
  refine ⟨_, _, _, _, _, _, _, _, _, ⟨c2 (Q := [_, _, _, _, _, _]) H16 0 _ rfl, c2 (Q := [_, _, _, _, _, _]) H16 1 _ rfl, c2 (Q := [_, _, _, _, _, _]) H16 2 _ rfl, c2 (Q := [_, _, _, _, _, _]) H16 3 _ rfl, c2 (Q := [_, _, _, _, _, _]) H16 4 _ rfl⟩, ?_⟩
  have hSe := set16_spec (rdW (Q := [_, _]) H16) (by omega) hst.few row off j
  rw [hld3, hlbu, hsect j (by omega), ← hCt] at hSe
  refine hSe.mono fun e w17 ⟨he17, hx17⟩ => ⟨_, _, he17, ?_⟩
  have H17 := H16.quiet hx17
  have hji : j < i := by omega
  have hjm := hmisM j hji
  refine ⟨fun vs w' => ∃ k : Nat, vs = [.bool ((lost.take k).any fun x => x == (j : Int)), .int .i64 (k : Int)] ∧ k ≤ 3 ∧ w' = w17, fun vs _ => match vs with | [_, .int _ k] => (3 - k).toNat | _ => 0, ⟨0, rfl, by omega, rfl⟩, ?_⟩
  rintro vs w18 ⟨k, rfl, hk, rfl⟩
  refine ⟨_, _, rfl, dec_t fun hlt3 => ?_, dec_f fun hge3' => ?_⟩
  · have hk3 : k < lost.length := by omega
    have hks : IntKind.i64.wrap ((k : Int) + 1) = ((k + 1 : Nat) : Int) := by rw [wrap64 _ (by omega) (by omega)]; rfl
    have hkm : ((3 : Int) - IntKind.i64.wrap ((k : Int) + 1)).toNat < ((3 : Int) - (k : Int)).toNat := by rw [wrap64 _ (by omega) (by omega)]; omega
    have hany : (lost.take (k + 1)).any (fun x => x == (j : Int)) = ((lost.take k).any (fun x => x == (j : Int)) || (lost.getD k 0 == (j : Int))) := by
      rw [List.take_add_one, List.any_append, List.getElem?_eq_getElem hk3, List.getD_eq_getElem?_getD, List.getElem?_eq_getElem hk3]; simp
    refine ⟨fun ht => ⟨⟨k + 1, by rw [hks, hany, ht, Bool.true_or], by omega, rfl⟩, hkm⟩, fun hf => ?_⟩
    obtain ⟨a9, ha9, hc9⟩ := (T.ints H17.under (g := gl) (n := lost.length) (cap := cl') (l := lost) (by repeat (first | exact List.Mem.head _ | refine List.Mem.tail _ ?_))).1.get hk3
    exact ⟨a9, ha9, by omega, (show (k : Int) < ((lost.length : Nat) : Int) by omega), _, by rw [Int.toNat_natCast]; exact hc9, ⟨k + 1, by rw [hks, hany, hf, Bool.false_or], by omega, rfl⟩, hkm⟩
  obtain rfl : k = 3 := by omega
  have htake : lost.take 3 = lost := List.take_of_length_le (by omega)
  rw [htake]
  have hnx : (gc - 2 - IntKind.i64.wrap ((j : Int) + 1)).toNat < (gc - 2 - (j : Int)).toNat := by rw [wrap64 _ (by omega) (by omega)]; omega
  have hjs : IntKind.i64.wrap ((j : Int) + 1) = ((j + 1 : Nat) : Int) := by rw [wrap64 _ (by omega) (by omega)]; rfl
  have hanyM : (lost.any fun x => x == (j : Int)) = ((colR s row j).toNat == c2' || gof c0' c1' 2 (colR s row j).toNat) := by
    rw [Bool.eq_iff_iff, ← hjm, List.any_eq_true]
    constructor
    · rintro ⟨x, hx, e⟩
      have : x = (j : Int) := by simpa using e
      rw [← this]; exact hx
    · intro h; exact ⟨_, h, by simp⟩
  rw [hanyM]
  cases hg : ((colR s row j).toNat == c2' || gof c0' c1' 2 (colR s row j).toNat) with
  | true =>
    rw [if_pos ⟨rfl, by omega⟩]
    exact yes rfl (no rfl (no (by rw [show (noB, (60 : Int)).1 = ByteArray.mk #[] from rfl, same_str]; rfl) (no rfl ⟨⟨j + 1, by rw [hjs], by omega, H17⟩, hnx⟩)))
  | false =>
    rw [if_neg (by simp)]
    obtain ⟨a0, ha0, hc0⟩ := rdL (Q := [_, _]) (j := j) hji H17
    exact no rfl (yes rfl (no rfl ⟨a0, ha0, by omega, by omega, _, hc0, no (by simp) ⟨⟨j + 1, by rw [hjs], by omega, H17⟩, hnx⟩⟩))
end Go.Proofs.YtedbbdeeofdepaaGreat
