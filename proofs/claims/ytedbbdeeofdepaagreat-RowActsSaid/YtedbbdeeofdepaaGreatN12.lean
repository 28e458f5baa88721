import Derived.Test.YtedbbdeeofdepaaGreatN9
import Derived.Test.YtedbbdeeofdepaaGreatN11
section
/-! row: a place, the sectors of a row, Read, Lost. -/
namespace Go.Proofs.YtedbbdeeofdepaaGreat
open Go.Sh Go.RowKit
set_option linter.unusedVariables false
set_option linter.unusedSimpArgs false
set_option maxRecDepth 20000
set_option maxHeartbeats 1000000
theorem Turn.mid {x y : A} {Γ Γ' : List A} (h : Turn x y Γ Γ') (z : A) : ∃ Γ'', Turn x z Γ Γ'' ∧ Turn z y Γ'' Γ' := by
  induction h with
  | head => exact ⟨_, .head, .head⟩
  | tail _ ih =>
    obtain ⟨Γ'', h1, h2⟩ := ih
    exact ⟨_, .tail h1, .tail h2⟩
/-- seven cells are stored -/
theorem st7 {F : List Nat} {w0 w : World} {Γ Γ' : List A} {k : Nat} {t : TypeId} {z0 z1 z2 z3 z4 z5 z6 v0 v1 v2 v3 v4 v5 v6 : Value} {K : World → Prop} (hT : T F w0 w Γ) (hu : Turn (blk k #[z0, z1, z2, z3, z4, z5, z6] t) (blk k #[v0, v1, v2, v3, v4, v5, v6] t) Γ Γ')
    (h0 : scalar v0 = true) (h1 : scalar v1 = true) (h2 : scalar v2 = true) (h3 : scalar v3 = true) (h4 : scalar v4 = true) (h5 : scalar v5 = true) (h6 : scalar v6 = true) (hK : ∀ w', T F w0 w' Γ' → K w') :
    St ⟨k, 0, none⟩ v0 w fun w1 => St ⟨k, 1, none⟩ v1 w1 fun w2 => St ⟨k, 2, none⟩ v2 w2 fun w3 => St ⟨k, 3, none⟩ v3 w3 fun w4 => St ⟨k, 4, none⟩ v4 w4 fun w5 => St ⟨k, 5, none⟩ v5 w5 fun w6 => St ⟨k, 6, none⟩ v6 w6 K := by
  obtain ⟨G1, a1, u1⟩ := Turn.mid hu (blk k #[v0, z1, z2, z3, z4, z5, z6] t)
  obtain ⟨G2, a2, u2⟩ := Turn.mid u1 (blk k #[v0, v1, z2, z3, z4, z5, z6] t)
  obtain ⟨G3, a3, u3⟩ := Turn.mid u2 (blk k #[v0, v1, v2, z3, z4, z5, z6] t)
  obtain ⟨G4, a4, u4⟩ := Turn.mid u3 (blk k #[v0, v1, v2, v3, z4, z5, z6] t)
  obtain ⟨G5, a5, u5⟩ := Turn.mid u4 (blk k #[v0, v1, v2, v3, v4, z5, z6] t)
  obtain ⟨G6, a6, u6⟩ := Turn.mid u5 (blk k #[v0, v1, v2, v3, v4, v5, z6] t)
  refine St.t hT a1 (by simp) rfl h0 fun w1 e1 => ?_
  refine St.t e1 a2 (by simp) rfl h1 fun w2 e2 => ?_
  refine St.t e2 a3 (by simp) rfl h2 fun w3 e3 => ?_
  refine St.t e3 a4 (by simp) rfl h3 fun w4 e4 => ?_
  refine St.t e4 a5 (by simp) rfl h4 fun w5 e5 => ?_
  refine St.t e5 a6 (by simp) rfl h5 fun w6 e6 => ?_
  exact St.t e6 u6 (by simp) rfl h6 hK
def atE (s : RwS) (ds : List Od) (bu : List Int) (row off : Int) : Int := if RMay s ds bu then (if row < 0 ∨ row ≥ s.r ∨ off < 0 ∨ off ≥ s.k then 70 else 0) else 1
theorem atE_zero {s : RwS} {ds : List Od} {bu : List Int} {row off : Int} (h : atE s ds bu row off = 0) : RMay s ds bu ∧ (0 ≤ row ∧ row < s.r) ∧ 0 ≤ off ∧ off < s.k := by
  unfold atE at h
  split at h
  · rename_i hm
    split at h
    · omega
    · exact ⟨hm, by omega, by omega⟩
  · omega
theorem at_spec {s : RwS} {ds : List Od} {bu : List Int} {w : World} (h : RwW s ds bu w) (hl : ds.length ≤ 1000000) (row off : Int) :
    Ret Tryz.prog 38 #[.agg (rwC s ds.length bu.length), .int .i64 row, .int .i64 off] w (.tuple #[.agg (plC s ds.length bu.length row off), .int .i64 (atE s ds bu row off)]) := by
  refine ret_of (row_Set_at_calls ?_)
  unfold row_Set_at
  refine Alloc.t (T.nil w) fun k3 w1 h1 => Alloc.t h1 fun k6 w2 h2 => ?_
  have h2 : T [] w w2 [blk k6 plZ 74, blk k3 (rwC s ds.length bu.length) 30] := h2
  have c3 : ∀ {w' : World} {Γ : List A}, T [] w w' Γ → blk k3 (rwC s ds.length bu.length) 30 ∈ Γ → ∀ i v, (rwC s ds.length bu.length)[i]? = some v → w'.cell? ⟨k3, i, none⟩ = some v := fun h' hm i v hv => h'.ld hm hv
  refine ⟨_, _, _, _, _, _, _, _, _, ⟨c3 h2 (by repeat (first | exact List.Mem.head _ | refine List.Mem.tail _ ?_)) 0 _ rfl, c3 h2 (by repeat (first | exact List.Mem.head _ | refine List.Mem.tail _ ?_)) 1 _ rfl, c3 h2 (by repeat (first | exact List.Mem.head _ | refine List.Mem.tail _ ?_)) 2 _ rfl, c3 h2 (by repeat (first | exact List.Mem.head _ | refine List.Mem.tail _ ?_)) 3 _ rfl, c3 h2 (by repeat (first | exact List.Mem.head _ | refine List.Mem.tail _ ?_)) 4 _ rfl⟩, ?_⟩
  refine Alloc.t h2 fun k8 w3 h3 => ?_
  refine st7 h3 .head rfl rfl rfl rfl rfl rfl rfl fun w4 h4 => ?_
  have h4 : T [] w w4 [blk k8 (plC s ds.length bu.length row off) 74, blk k6 plZ 74, blk k3 (rwC s ds.length bu.length) 30] := h4
  refine ⟨_, _, _, _, _, _, _, _, _, ⟨c3 h4 (by repeat (first | exact List.Mem.head _ | refine List.Mem.tail _ ?_)) 0 _ rfl, c3 h4 (by repeat (first | exact List.Mem.head _ | refine List.Mem.tail _ ?_)) 1 _ rfl, c3 h4 (by repeat (first | exact List.Mem.head _ | refine List.Mem.tail _ ?_)) 2 _ rfl, c3 h4 (by repeat (first | exact List.Mem.head _ | refine List.Mem.tail _ ?_)) 3 _ rfl, c3 h4 (by repeat (first | exact List.Mem.head _ | refine List.Mem.tail _ ?_)) 4 _ rfl⟩, ?_⟩
  refine (may16_spec (h.ext h4.chg.ext) hl).mono fun e w5 ⟨he5, hx5⟩ => ⟨_, he5, ?_⟩
  have h5 := h4.quiet hx5
  have c8 : ∀ i v, (plC s ds.length bu.length row off)[i]? = some v → w5.cell? ⟨k8, i, none⟩ = some v := fun i v hv => h5.ld (by repeat (first | exact List.Mem.head _ | refine List.Mem.tail _ ?_)) hv
  have out : ∀ {n : Int}, n = atE s ds bu row off → ∃ n17_0 : Int, ∃ n17_1 : Int, ∃ n17_2 : Int, ∃ (p17_3 : Option Addr) (l17_3 c17_3 : Nat), ∃ (p17_4 : Option Addr) (l17_4 c17_4 : Nat), ∃ n17_5 : Int, ∃ n17_6 : Int, (w5.cell? ⟨k8, 0, none⟩ = some (.int .i64 n17_0) ∧ w5.cell? ⟨k8, 1, none⟩ = some (.int .i64 n17_1) ∧ w5.cell? ⟨k8, 2, none⟩ = some (.int .i64 n17_2) ∧ w5.cell? ⟨k8, 3, none⟩ = some (.slice p17_3 l17_3 c17_3) ∧ w5.cell? ⟨k8, 4, none⟩ = some (.slice p17_4 l17_4 c17_4) ∧ w5.cell? ⟨k8, 5, none⟩ = some (.int .i64 n17_5) ∧ w5.cell? ⟨k8, 6, none⟩ = some (.int .i64 n17_6)) ∧
      St ⟨k6, 0, none⟩ (.int .i64 n17_0) w5 fun w1 => St ⟨k6, 1, none⟩ (.int .i64 n17_1) w1 fun w2 => St ⟨k6, 2, none⟩ (.int .i64 n17_2) w2 fun w3 => St ⟨k6, 3, none⟩ (.slice p17_3 l17_3 c17_3) w3 fun w4 => St ⟨k6, 4, none⟩ (.slice p17_4 l17_4 c17_4) w4 fun w5 => St ⟨k6, 5, none⟩ (.int .i64 n17_5) w5 fun w6 => St ⟨k6, 6, none⟩ (.int .i64 n17_6) w6 fun w18 =>
      ∃ nr6_0 : Int, ∃ nr6_1 : Int, ∃ nr6_2 : Int, ∃ (pr6_3 : Option Addr) (lr6_3 cr6_3 : Nat), ∃ (pr6_4 : Option Addr) (lr6_4 cr6_4 : Nat), ∃ nr6_5 : Int, ∃ nr6_6 : Int, (w18.cell? ⟨k6, 0, none⟩ = some (.int .i64 nr6_0) ∧ w18.cell? ⟨k6, 1, none⟩ = some (.int .i64 nr6_1) ∧ w18.cell? ⟨k6, 2, none⟩ = some (.int .i64 nr6_2) ∧ w18.cell? ⟨k6, 3, none⟩ = some (.slice pr6_3 lr6_3 cr6_3) ∧ w18.cell? ⟨k6, 4, none⟩ = some (.slice pr6_4 lr6_4 cr6_4) ∧ w18.cell? ⟨k6, 5, none⟩ = some (.int .i64 nr6_5) ∧ w18.cell? ⟨k6, 6, none⟩ = some (.int .i64 nr6_6)) ∧
      (fun u w' => u = Value.tuple #[.agg (plC s ds.length bu.length row off), .int .i64 (atE s ds bu row off)] ∧ Ext w w') (.tuple #[.agg #[.int .i64 nr6_0, .int .i64 nr6_1, .int .i64 nr6_2, .slice pr6_3 lr6_3 cr6_3, .slice pr6_4 lr6_4 cr6_4, .int .i64 nr6_5, .int .i64 nr6_6], .int .i64 n]) w18 := by
    intro n hn
    refine ⟨_, _, _, _, _, _, _, _, _, _, _, ⟨c8 0 _ rfl, c8 1 _ rfl, c8 2 _ rfl, c8 3 _ rfl, c8 4 _ rfl, c8 5 _ rfl, c8 6 _ rfl⟩, ?_⟩
    refine st7 h5 (.tail .head) rfl rfl rfl rfl rfl rfl rfl fun w6 h6 => ?_
    have h6 : T [] w w6 [blk k8 (plC s ds.length bu.length row off) 74, blk k6 (plC s ds.length bu.length row off) 74, blk k3 (rwC s ds.length bu.length) 30] := h6
    have c6 : ∀ i v, (plC s ds.length bu.length row off)[i]? = some v → w6.cell? ⟨k6, i, none⟩ = some v := fun i v hv => h6.ld (b := k6) (by repeat (first | exact List.Mem.head _ | refine List.Mem.tail _ ?_)) hv
    exact ⟨_, _, _, _, _, _, _, _, _, _, _, ⟨c6 0 _ rfl, c6 1 _ rfl, c6 2 _ rfl, c6 3 _ rfl, c6 4 _ rfl, c6 5 _ rfl, c6 6 _ rfl⟩, by rw [hn]; rfl, h6.chg.ext⟩
  by_cases hM : RMay s ds bu
  · have e0 : atE s ds bu row off = if row < 0 ∨ row ≥ s.r ∨ off < 0 ∨ off ≥ s.k then 70 else 0 := by unfold atE; rw [if_pos hM]
    refine no (by rw [decide_eq_true hM]; rfl) ?_
    refine ⟨dec_t fun h1 => out (by rw [e0, if_pos (by omega)]), dec_f fun h1 => ⟨_, c3 h5 (by repeat (first | exact List.Mem.head _ | refine List.Mem.tail _ ?_)) 2 _ rfl, dec_t fun h2 => out (by rw [e0, if_pos (by omega)]), dec_f fun h2 => ⟨dec_t fun h3 => out (by rw [e0, if_pos (by omega)]), dec_f fun h3 => ⟨_, c3 h5 (by repeat (first | exact List.Mem.head _ | refine List.Mem.tail _ ?_)) 1 _ rfl, dec_t fun h4 => out (by rw [e0, if_pos (by omega)]), dec_f fun h4 => out (by rw [e0, if_neg (by omega)])⟩⟩⟩⟩
  · refine yes (by rw [decide_eq_false hM]; rfl) ?_
    exact out (by unfold atE; rw [if_neg hM])
theorem first_of {P : Nat → Prop} {n : Nat} (h : ∃ i, i < n ∧ P i) : ∃ N, N < n ∧ P N ∧ ∀ k, k < N → ¬ P k := by
  obtain ⟨i, hi, hp⟩ := h
  induction i using Nat.strongRecOn with
  | ind i ih =>
    by_cases hk : ∃ k, k < i ∧ P k
    · obtain ⟨k, h1, h2⟩ := hk
      exact ih k h1 (by omega) h2
    · exact ⟨i, hi, hp, fun k h1 h2 => hk ⟨k, h1, h2⟩⟩
/-- what is read of the first roles, and which of them are lost -/
def colX (f : Nat → ByteArray × Int) (n : Nat) : List Txt := (List.range n).map fun i => (f i).1.data.toList
def colL (f : Nat → ByteArray × Int) (n : Nat) : List Int := ((List.range n).filter fun i => (f i).2 != 0).map fun i : Nat => (i : Int)
theorem colX_len (f : Nat → ByteArray × Int) (n : Nat) : (colX f n).length = n := by simp [colX]
theorem colX_succ (f : Nat → ByteArray × Int) (n : Nat) : txts (colX f n) ++ [.string (f n).1] = txts (colX f (n + 1)) := by
  unfold colX txts
  rw [List.range_succ]
  simp
theorem colL_ok {f : Nat → ByteArray × Int} {n : Nat} (h : (f n).2 = 0) : colL f (n + 1) = colL f n := by
  unfold colL
  rw [List.range_succ]
  simp [h]
theorem colL_no {f : Nat → ByteArray × Int} {n : Nat} (h : (f n).2 ≠ 0) : colL f (n + 1) = colL f n ++ [(n : Int)] := by
  unfold colL
  rw [List.range_succ]
  simp [h]
theorem colL_le (f : Nat → ByteArray × Int) (n : Nat) : (colL f n).length ≤ n := by
  unfold colL
  rw [List.length_map]
  exact Nat.le_trans (List.length_filter_le _ _) (by simp)
theorem intsI_snoc (l : List Int) (x : Int) : intsI l ++ [.int .i64 x] = intsI (l ++ [x]) := by simp [intsI]
/-- what is read of a row -/
def readR (s : RwS) (ds : List Od) (bu : List Int) (row off : Int) : Except Int (List Txt × List Int) :=
  if atE s ds bu row off ≠ 0 then .error (atE s ds bu row off) else if (List.range s.c.toNat).any fun i => (secR s ds bu row off i).2 == 42 then .error 42 else .ok (colX (fun i => secR s ds bu row off i) s.c.toNat, colL (fun i => secR s ds bu row off i) s.c.toNat)
/-- the answer of Read, or of Filled -/
def RdP (r : Except Int (List Txt × List Int)) (w : World) (v : Value) (w' : World) : Prop := match r with
  | .error n => v = .tuple #[.slice none 0 0, .slice none 0 0, .int .i64 n] ∧ Ext w w'
  | .ok x => ∃ g c g' c', v = .tuple #[.slice (ptr g) x.1.length c, .slice (ptr g') x.2.length c', .int .i64 0] ∧ T [] w w' [rowP 9 1 g x.1.length c (txts x.1), rowP 3 1 g' x.2.length c' (intsI x.2)]
theorem sectors_spec {s : RwS} {n m : Nat} {row off : Int} {w0 w : World} {Γ : List A} (hT : T [] w0 w Γ) {Φ : Ending → World → Prop} (hK : ∀ k w', T [] w0 w' (blk k (plC s n m row off) 74 :: Γ) → Φ (.returned (.func (.func 80) #[] #[.pointer (some ⟨k, 0, none⟩)])) w') :
    Calls Tryz.prog 45 #[.agg (plC s n m row off)] w Φ := by
  refine (row_place_sectors_calls (R := fun v w' => Φ (.returned v) w') ?_).mono fun e w' ⟨v, he, h⟩ => by rw [he]; exact h
  unfold row_place_sectors
  exact Alloc.t hT fun k w1 h1 => hK k w1 h1
/-- the iterator: the N-th is the last, or it stops there -/
theorem sectors1_spec {s : RwS} {ds : List Od} {bu : List Int} (hF : FewL ds 1000000) (hM : RMay s ds bu) {row off : Int} (hr : 0 ≤ row ∧ row < s.r) {k1 : Nat} {yv : Value} {J : Nat → World → Prop} {Q : World → Prop} {N : Nat} (hN : (N : Int) ≤ s.c)
    (hJ : ∀ m W, J m W → RwW s ds bu W ∧ ∀ i v, (plC s ds.length bu.length row off)[i]? = some v → W.cell? ⟨k1, i, none⟩ = some v) (hx : ∀ m W W', J m W → Ext W W' → J m W')
    (hgo : ∀ m W, m < N → J m W → CallF Tryz.prog yv [.string (secR s ds bu row off m).1, .int .i64 (secR s ds bu row off m).2] W fun e w' => e = .returned (.bool true) ∧ J (m + 1) w')
    (hend : (N : Int) < s.c → ∀ W, J N W → CallF Tryz.prog yv [.string (secR s ds bu row off N).1, .int .i64 (secR s ds bu row off N).2] W fun e w' => e = .returned (.bool false) ∧ Q w')
    (hall : (N : Int) = s.c → ∀ W, J N W → Q W) (W : World) (h0 : J 0 W) :
    Calls Tryz.prog 80 #[yv, .pointer (some ⟨k1, 0, none⟩)] W fun e w' => (∃ v, e = .returned v) ∧ Q w' := by
  refine (row_place_sectors_1_calls (R := fun v w' => Q w') ?_).mono fun e w' ⟨v, he, h⟩ => ⟨⟨v, he⟩, h⟩
  unfold row_place_sectors_1
  have hc := hM.1.1
  have hc2 := hM.1.2.1
  refine ⟨_, (hJ 0 W h0).2 0 _ rfl, ?_⟩
  refine ⟨fun vs w' => ∃ i : Nat, vs = [.int .i64 (i : Int)] ∧ i ≤ N ∧ J i w', fun vs _ => match vs with | [.int _ i] => (s.c - i).toNat | _ => 0, ⟨0, rfl, by omega, h0⟩, ?_⟩
  rintro vs w1 ⟨i, rfl, hi, hJi⟩
  refine ⟨_, rfl, dec_t fun hlt => ?_, dec_f fun hge => ?_⟩
  · obtain ⟨hW, cl⟩ := hJ i w1 hJi
    refine ⟨_, _, _, _, _, _, _, _, _, _, _, ⟨cl 0 _ rfl, by rw [addr_add]; exact cl (0 + 1) _ rfl, by rw [addr_add]; exact cl (0 + 2) _ rfl, by rw [addr_add]; exact cl (0 + 3) _ rfl, by rw [addr_add]; exact cl (0 + 4) _ rfl, by rw [addr_add]; exact cl (0 + 5) _ rfl, by rw [addr_add]; exact cl (0 + 6) _ rfl⟩, ?_⟩
    refine (sector16_spec hW hF hM (off := off) hr (role := (i : Int)) ⟨by omega, hlt⟩).mono fun e w2 ⟨he2, hx2⟩ => ⟨_, _, he2, ?_⟩
    have hJ2 := hx i _ _ hJi hx2
    by_cases hiN : i < N
    · refine CallF.mono (hgo i w2 hiN hJ2) fun e w3 ⟨he, hJ3⟩ => ⟨true, he, no rfl ⟨⟨i + 1, ?_, by omega, hJ3⟩, ?_⟩⟩
      · rw [wrap64 _ (by omega) (by omega)]; rfl
      · show (s.c - IntKind.i64.wrap ((i : Int) + 1)).toNat < (s.c - (i : Int)).toNat
        rw [wrap64 _ (by omega) (by omega)]; omega
    · obtain rfl : i = N := by omega
      exact CallF.mono (hend hlt w2 hJ2) fun e w3 ⟨he, hq⟩ => ⟨false, he, yes rfl hq⟩
  · obtain rfl : i = N := by omega
    exact hall (by omega) w1 hJi
/-- the parts while it reads -/
abbrev rdG (s : RwS) (n m : Nat) (row off : Int) (k3 k6 k7 k8 k9 k10 k11 k12 : Nat) (g : Option Nat) (j cp : Nat) (X : List Txt) (g' : Option Nat) (cp' : Nat) (l : List Int) (er : Int) : List A :=
  [rowP 9 1 g j cp (txts X), rowP 3 1 g' l.length cp' (intsI l), blk k10 (plC s n m row off) 74, blk k12 #[.slice (ptr g') l.length cp'] 28, blk k11 #[.slice (ptr g) j cp] 22, blk k9 (plC s n m row off) 74, blk k8 #[.int .i64 er] 38, blk k7 #[.slice none 0 0] 28, blk k6 #[.slice none 0 0] 22, blk k3 (rwC s n m) 30]
theorem read16_spec {s : RwS} {ds : List Od} {bu : List Int} {w : World} (h : RwW s ds bu w) (hl : ds.length ≤ 1000000) (hF : FewL ds 1000000) (row off : Int) :
    Calls Tryz.prog 17 #[.agg (rwC s ds.length bu.length), .int .i64 row, .int .i64 off] w fun e w' => ∃ v, e = .returned v ∧ RdP (readR s ds bu row off) w v w' := by
  refine row_Read_calls ?_
  unfold row_Read
  refine Alloc.t (T.nil w) fun k3 w1 h1 => Alloc.t h1 fun k6 w2 h2 => Alloc.t h2 fun k7 w3 h3 => Alloc.t h3 fun k8 w4 h4 => ?_
  have h4 : T [] w w4 [blk k8 #[.int .i64 0] 38, blk k7 #[.slice none 0 0] 28, blk k6 #[.slice none 0 0] 22, blk k3 (rwC s ds.length bu.length) 30] := h4
  have c3 : ∀ i v, (rwC s ds.length bu.length)[i]? = some v → w4.cell? ⟨k3, i, none⟩ = some v := fun i v hv => h4.ld (by repeat (first | exact List.Mem.head _ | refine List.Mem.tail _ ?_)) hv
  refine ⟨_, _, _, _, _, _, _, _, _, ⟨c3 0 _ rfl, c3 1 _ rfl, c3 2 _ rfl, c3 3 _ rfl, c3 4 _ rfl⟩, ?_⟩
  refine (at_spec (h.ext h4.chg.ext) hl row off).mono fun e w5 ⟨he5, hx5⟩ => ⟨_, _, _, _, _, _, _, _, _, _, _, _, he5, ?_⟩
  refine Alloc.t (h4.quiet hx5) fun k9 w6 h6 => ?_
  refine st7 h6 .head rfl rfl rfl rfl rfl rfl rfl fun w7 h7 => ?_
  have h7 : T [] w w7 [blk k9 (plC s ds.length bu.length row off) 74, blk k8 #[.int .i64 0] 38, blk k7 #[.slice none 0 0] 28, blk k6 #[.slice none 0 0] 22, blk k3 (rwC s ds.length bu.length) 30] := h7
  unfold readR
  refine ⟨bne_t fun hn => ?_, bne_f fun hz => ?_⟩
  · rw [if_pos hn]
    refine St.t h7 (by repeat (first | exact Turn.head | apply Turn.tail)) (by simp) (by rfl) rfl fun w8 h8 => St.t h8 (by repeat (first | exact Turn.head | apply Turn.tail)) (by simp) (by rfl) rfl fun w9 h9 => St.t h9 (by repeat (first | exact Turn.head | apply Turn.tail)) (by simp) (by rfl) rfl fun w10 h10 => ?_
    exact ⟨_, _, _, h10.ld (b := k6) (by repeat (first | exact List.Mem.head _ | refine List.Mem.tail _ ?_)) rfl, _, _, _, h10.ld (b := k7) (by repeat (first | exact List.Mem.head _ | refine List.Mem.tail _ ?_)) rfl, _, h10.ld (b := k8) (by repeat (first | exact List.Mem.head _ | refine List.Mem.tail _ ?_)) rfl, rfl, h10.chg.ext⟩
  rw [if_neg (by omega)]
  obtain ⟨hM, hr, ho⟩ := atE_zero hz
  have hc := hM.1.1
  have hc2 := hM.1.2.1
  obtain ⟨c, hcc⟩ : ∃ c : Nat, s.c = (c : Int) := ⟨s.c.toNat, by omega⟩
  rw [hcc, Int.toNat_natCast]
  refine Alloc.t h7 fun k11 w8 h8 => Alloc.t h8 fun k12 w9 h9 => ?_
  have c9 : ∀ i v, (plC s ds.length bu.length row off)[i]? = some v → w9.cell? ⟨k9, i, none⟩ = some v := fun i v hv => h9.ld (b := k9) (by repeat (first | exact List.Mem.head _ | refine List.Mem.tail _ ?_)) hv
  refine ⟨_, _, _, _, _, _, _, _, _, _, _, ⟨c9 0 _ rfl, c9 1 _ rfl, c9 2 _ rfl, c9 3 _ rfl, c9 4 _ rfl, c9 5 _ rfl, c9 6 _ rfl⟩, ?_⟩
  refine sectors_spec h9 fun k10 w10 h10 => ⟨_, rfl, ?_⟩
  have h11 := T.nilRow (T.nilRow h10 3 1) 9 1
  generalize hf : (fun i : Nat => secR s ds bu row off (i : Int)) = f
  have hfi : ∀ i : Nat, secR s ds bu row off (i : Int) = f i := fun i => by rw [← hf]
  -- what a round does
  have push : ∀ (m : Nat) (w1 : World) (x y : A) (g : Option Nat) (cp : Nat) (g' : Option Nat) (cp' : Nat) (l' : List Int), T [] w w1 (x :: y :: rdG s ds.length bu.length row off k3 k6 k7 k8 k9 k10 k11 k12 g m cp (colX f m) g' cp' l' 0) → m ≤ 10 →
      ∀ (K : World → Prop), (∀ g2 cp2 w2, T [] w w2 (x :: y :: rdG s ds.length bu.length row off k3 k6 k7 k8 k9 k10 k11 k12 g2 (m + 1) cp2 (colX f (m + 1)) g' cp' l' 0) → K w2) →
      ∃ (p40 : Option Addr) (l40 c40 : Nat), w1.cell? ⟨k11, 0, none⟩ = some (.slice p40 l40 c40) ∧
        Alloc #[.string (f m).1] 9 w1 fun k42 w22 => ∃ (p43 : Option Addr) (l43 c43 : Nat), ∃ w23, (builtin .append #[22, 22] 22 #[false, false] #[.slice p40 l40 c40, .slice (some ⟨k42, 0, none⟩) 1 1]).run Tryz.prog w22 = .ok (.value (.slice p43 l43 c43)) w23 ∧
        St ⟨k11, 0, none⟩ (.slice p43 l43 c43) w23 K := by
    intro m w1 x y g cp g' cp' l' h1 hm K hK
    refine ⟨_, _, _, h1.ld (b := k11) (by repeat (first | exact List.Mem.head _ | refine List.Mem.tail _ ?_)) rfl, ?_⟩
    refine push1_t (i := Tryz.t9) (z := .string (ByteArray.mk #[])) (by kernel_rfl) (by kernel_rfl) (by kernel_rfl) (by kernel_rfl) (by kernel_rfl) (by kernel_rfl) h1 (.tail (.tail .head)) rfl (by omega) fun g2 cp2 w5 h5 => ?_
    rw [colX_succ] at h5
    refine St.t h5 (c' := #[.slice (ptr g2) (m + 1) cp2]) (by repeat (first | exact Turn.head | apply Turn.tail)) (by simp) (by rfl) rfl fun w6 h6 => ?_
    exact hK g2 cp2 w6 ((h6.pick (.tail (.tail .head))).pick (.tail (.tail .head)))
  have round : ∀ (obf : LoopState → Option Code → Obj) (l d m : Nat) (g : Option Nat) (cp : Nat) (g' : Option Nat) (cp' : Nat) (W : World) (Φ : Value → World → Prop), m ≤ 10 → (f m).2 ≠ 42 → T [] w W (ob l (obf .ready none) :: ob d (.deferred (some [])) :: rdG s ds.length bu.length row off k3 k6 k7 k8 k9 k10 k11 k12 g m cp (colX f m) g' cp' (colL f m) 0) →
      (∀ g cp g' cp' w', T [] w w' (ob l (obf .ready none) :: ob d (.deferred (some [])) :: rdG s ds.length bu.length row off k3 k6 k7 k8 k9 k10 k11 k12 g (m + 1) cp (colX f (m + 1)) g' cp' (colL f (m + 1)) 0) → Φ (.bool true) w') → (∃ s27 : ByteArray, ∃ n28 : Int, [Value.string (f m).1, Value.int .i64 (f m).2] = [.string s27, .int .i64 n28] ∧
  RoundP obf l Φ (fun K X R w20 =>
  Join (fun vs w21 => vs = [] ∧
  ∃ (p40 : Option Addr) (l40 c40 : Nat), w21.cell? ⟨k11, 0, none⟩ = some (.slice p40 l40 c40) ∧
  Alloc #[.string s27] 9 w21 fun k42 w22 =>
  ∃ (p43 : Option Addr) (l43 c43 : Nat), ∃ w23, (builtin .append #[22, 22] 22 #[false, false] #[.slice p40 l40 c40, .slice (some ⟨k42, 0, none⟩) 1 1]).run Tryz.prog w22 = .ok (.value (.slice p43 l43 c43)) w23 ∧
  St ⟨k11, 0, none⟩ (.slice p43 l43 c43) w23 fun w24 =>
  K w24) fun J =>
  ((n28 == 42) = true →
  St ⟨k6, 0, none⟩ (.slice none 0 0) w20 fun w25 =>
  St ⟨k7, 0, none⟩ (.slice none 0 0) w25 fun w26 =>
  St ⟨k8, 0, none⟩ (.int .i64 n28) w26 fun w27 =>
  R w27) ∧
  ((n28 == 42) = false →
  ((n28 == 0) = true →
  J [] w20) ∧
  ((n28 == 0) = false →
  ∃ (p30 : Option Addr) (l30 c30 : Nat), w20.cell? ⟨k12, 0, none⟩ = some (.slice p30 l30 c30) ∧
  ∃ (p31 : Option Addr) (l31 c31 : Nat), w20.cell? ⟨k11, 0, none⟩ = some (.slice p31 l31 c31) ∧
  Alloc #[.int .i64 (l31 : Int)] 3 w20 fun k33 w28 =>
  ∃ (p34 : Option Addr) (l34 c34 : Nat), ∃ w29, (builtin .append #[28, 28] 28 #[false, false] #[.slice p30 l30 c30, .slice (some ⟨k33, 0, none⟩) 1 1]).run Tryz.prog w28 = .ok (.value (.slice p34 l34 c34)) w29 ∧
  St ⟨k12, 0, none⟩ (.slice p34 l34 c34) w29 fun w30 =>
  J [] w30))) W) := by
    intro obf l d m g cp g' cp' W Φ hm hn hW hΦ
    refine ⟨_, _, rfl, ?_⟩
    refine RoundP.t hW (G := fun Γ' => ∃ g cp g' cp', Γ' = ob d (.deferred (some [])) :: rdG s ds.length bu.length row off k3 k6 k7 k8 k9 k10 k11 k12 g (m + 1) cp (colX f (m + 1)) g' cp' (colL f (m + 1)) 0) ?_ ?_
    · rintro Γ' w' ⟨g, cp, g', cp', rfl⟩ h'
      exact hΦ g cp g' cp' w' h'
    · intro K X R w13 h13 hK
      refine Join.intro fun J hJ => ?_
      refine ⟨beq_t fun hh => absurd hh hn, beq_f fun _ => ⟨beq_t fun h0 => hJ [] _ ⟨rfl, push m _ _ _ _ _ _ _ _ h13 hm _ fun g2 cp2 w2 h2 => hK _ w2 ⟨g2, cp2, g', cp', rfl⟩ (by rw [colL_ok h0]; exact h2)⟩, beq_f fun h1 => ?_⟩⟩
      refine ⟨_, _, _, h13.ld (b := k12) (by repeat (first | exact List.Mem.head _ | refine List.Mem.tail _ ?_)) rfl, _, _, _, h13.ld (b := k11) (by repeat (first | exact List.Mem.head _ | refine List.Mem.tail _ ?_)) rfl, ?_⟩
      have hle := colL_le f m
      refine push1_t (i := Tryz.t3) (z := .int .i64 0) (by kernel_rfl) (by kernel_rfl) (by kernel_rfl) (by kernel_rfl) (by kernel_rfl) (by kernel_rfl) h13 (.tail (.tail (.tail .head))) rfl (by omega) fun g2 cp2 w5 h5 => ?_
      rw [intsI_snoc, ← colL_no h1] at h5
      have hl2 : (colL f (m + 1)).length = (colL f m).length + 1 := by rw [colL_no h1]; simp
      rw [← hl2] at h5 ⊢
      refine St.t h5 (c' := #[.slice (ptr g2) (colL f (m + 1)).length cp2]) (by repeat (first | exact Turn.head | apply Turn.tail)) (by simp) (by rfl) rfl fun w6 h6 => ?_
      have h7 := ((h6.pick (.tail (.tail (.tail .head)))).pick (.tail (.tail (.tail .head)))).pick (.tail (.tail (.tail .head)))
      exact hJ [] _ ⟨rfl, push m _ _ _ _ _ _ _ _ h7 hm _ fun g3 cp3 w2 h2 => hK _ w2 ⟨g3, cp3, g2, cp2, rfl⟩ h2⟩
  have hev : ∀ Γk w', T [] w w' Γk → RwW s ds bu w' := fun Γk w' h' => h.ext h'.chg.ext
  have cok : ∀ m, colL f m = colL f m := fun _ => rfl
  by_cases h42 : ∃ i, i < c ∧ (f i).2 = 42
  · obtain ⟨N, hN, hN42, hNb⟩ := first_of h42
    rw [if_pos (List.any_eq_true.2 ⟨N, List.mem_range.2 hN, by rw [hfi]; simpa using hN42⟩)]
    refine RangeR.t (by kernel_rfl) h11 (N := N) (arg := fun m => [.string (f m).1, .int .i64 (f m).2])
      (Inv := fun m Γk => ∃ g cp g' cp', Γk = rdG s ds.length bu.length row off k3 k6 k7 k8 k9 k10 k11 k12 g m cp (colX f m) g' cp' (colL f m) 0)
      (Mid := fun m Γk => ∃ g cp g' cp', Γk = rdG s ds.length bu.length row off k3 k6 k7 k8 k9 k10 k11 k12 g (m + 1) cp (colX f (m + 1)) g' cp' (colL f (m + 1)) 0)
      (Out := fun Γk => ∃ g cp g' cp', Γk = rdG s ds.length bu.length row off k3 k6 k7 k8 k9 k10 k11 k12 g N cp (colX f N) g' cp' (colL f N) 42) ?_ ?_ ?_ ?_
    · intro yv x y z hyes hno W hW
      refine sectors1_spec hF hM (off := off) hr (N := N) (by omega) (k1 := k10) (J := fun m W => ∃ Γk, (∃ g cp g' cp', Γk = rdG s ds.length bu.length row off k3 k6 k7 k8 k9 k10 k11 k12 g m cp (colX f m) g' cp' (colL f m) 0) ∧ T [] w W (x :: y :: Γk)) ?_ ?_ ?_ ?_ ?_ W ⟨_, ⟨none, 0, none, 0, rfl⟩, hW⟩
      · rintro m W ⟨Γk, ⟨g, cp, g', cp', rfl⟩, h'⟩
        exact ⟨hev _ _ h', fun i v hv => h'.ld (b := k10) (by repeat (first | exact List.Mem.head _ | refine List.Mem.tail _ ?_)) hv⟩
      · rintro m W W' ⟨Γk, hi, h'⟩ hx
        exact ⟨Γk, hi, h'.quiet hx⟩
      · rintro m W hm ⟨Γk, hi, h'⟩
        rw [hfi]
        exact CallF.mono (hyes m W _ hm hi h') fun e w' ⟨he, Γ', hm, hT⟩ => ⟨he, Γ', hm, hT⟩
      · rintro _ W ⟨Γk, hi, h'⟩
        rw [hfi]
        exact hno W _ hi h'
      · intro hh; omega
    · rintro obf l d m Γk W Φ hm ⟨g, cp, g', cp', rfl⟩ hW hΦ
      exact round obf l d m g cp g' cp' W Φ (by omega) (hNb m hm) hW fun g cp g' cp' w' h' => hΦ _ w' ⟨g, cp, g', cp', rfl⟩ h'
    · rintro obf l d Γk W Φ ⟨g, cp, g', cp', rfl⟩ hW hΦ
      refine ⟨_, _, rfl, ?_⟩
      refine RoundR.t hW (G := fun Γ' => Γ' = ob d (.deferred (some [])) :: rdG s ds.length bu.length row off k3 k6 k7 k8 k9 k10 k11 k12 g N cp (colX f N) g' cp' (colL f N) 42) ?_ ?_
      · rintro Γ' w' rfl h'
        exact hΦ _ w' ⟨g, cp, g', cp', rfl⟩ h'
      · intro K X R w13 h13 hR
        refine Join.intro fun J hJ => ?_
        refine yes (by simpa using hN42) ?_
        refine St.t h13 (by repeat (first | exact Turn.head | apply Turn.tail)) (by simp) (by rfl) rfl fun w5 h5 => St.t h5 (by repeat (first | exact Turn.head | apply Turn.tail)) (by simp) (by rfl) rfl fun w6 h6 => St.t h6 (c' := #[.int .i64 42]) (by repeat (first | exact Turn.head | apply Turn.tail)) (by simp) (by rw [hN42]; rfl) rfl fun w7 h7 => hR _ w7 rfl h7
    · rintro d Γ' w' ⟨g, cp, g', cp', rfl⟩ h'
      refine ⟨h'.got List.mem_cons_self, ?_⟩
      have h8 := h'.putTop (o' := .deferred none)
      exact ⟨_, _, _, h8.ld (b := k6) (by repeat (first | exact List.Mem.head _ | refine List.Mem.tail _ ?_)) rfl, _, _, _, h8.ld (b := k7) (by repeat (first | exact List.Mem.head _ | refine List.Mem.tail _ ?_)) rfl, _, h8.ld (b := k8) (by repeat (first | exact List.Mem.head _ | refine List.Mem.tail _ ?_)) rfl, rfl, h8.chg.ext⟩
  · have hno : ∀ i, i < c → (f i).2 ≠ 42 := fun i hi he => h42 ⟨i, hi, he⟩
    rw [if_neg (fun ha => by
      obtain ⟨i, hi, hb⟩ := List.any_eq_true.1 ha
      rw [hfi] at hb
      exact hno i (List.mem_range.1 hi) (by simpa using hb))]
    refine RangeA.t (by kernel_rfl) h11 (N := c) (arg := fun m => [.string (f m).1, .int .i64 (f m).2])
      (Inv := fun m Γk => ∃ g cp g' cp', Γk = rdG s ds.length bu.length row off k3 k6 k7 k8 k9 k10 k11 k12 g m cp (colX f m) g' cp' (colL f m) 0)
      (Mid := fun m Γk => ∃ g cp g' cp', Γk = rdG s ds.length bu.length row off k3 k6 k7 k8 k9 k10 k11 k12 g (m + 1) cp (colX f (m + 1)) g' cp' (colL f (m + 1)) 0) ?_ ?_ ?_
    · intro yv x y hyes W hW
      refine sectors1_spec hF hM (off := off) hr (N := c) (by omega) (k1 := k10) (J := fun m W => ∃ Γk, (∃ g cp g' cp', Γk = rdG s ds.length bu.length row off k3 k6 k7 k8 k9 k10 k11 k12 g m cp (colX f m) g' cp' (colL f m) 0) ∧ T [] w W (x :: y :: Γk)) ?_ ?_ ?_ ?_ ?_ W ⟨_, ⟨none, 0, none, 0, rfl⟩, hW⟩
      · rintro m W ⟨Γk, ⟨g, cp, g', cp', rfl⟩, h'⟩
        exact ⟨hev _ _ h', fun i v hv => h'.ld (b := k10) (by repeat (first | exact List.Mem.head _ | refine List.Mem.tail _ ?_)) hv⟩
      · rintro m W W' ⟨Γk, hi, h'⟩ hx
        exact ⟨Γk, hi, h'.quiet hx⟩
      · rintro m W hm ⟨Γk, hi, h'⟩
        rw [hfi]
        exact CallF.mono (hyes m W _ hm hi h') fun e w' ⟨he, Γ', hm, hT⟩ => ⟨he, Γ', hm, hT⟩
      · intro hh; omega
      · rintro _ W h'
        exact h'
    · rintro obf l d m Γk W Φ hm ⟨g, cp, g', cp', rfl⟩ hW hΦ
      exact round obf l d m g cp g' cp' W Φ (by omega) (hno m hm) hW fun g cp g' cp' w' h' => hΦ _ w' ⟨g, cp, g', cp', rfl⟩ h'
    · rintro d Γ' w' ⟨g, cp, g', cp', rfl⟩ h'
      have ex : T [] w w'.drew _ := h'.drew
      refine ⟨fun w2 => w2.cell? ⟨k11, 0, none⟩ = some (.slice (ptr g) c cp) ∧ w2.cell? ⟨k12, 0, none⟩ = some (.slice (ptr g') (colL f c).length cp'), ⟨ex.ld (b := k11) (by repeat (first | exact List.Mem.head _ | refine List.Mem.tail _ ?_)) rfl, ex.ld (b := k12) (by repeat (first | exact List.Mem.head _ | refine List.Mem.tail _ ?_)) rfl⟩, _, _, _, fun w2 hw2 => hw2.1, _, _, _, fun w2 hw2 => hw2.2, ?_⟩
      refine St.t ex (c' := #[.slice (ptr g) c cp]) (by repeat (first | exact Turn.head | apply Turn.tail)) (by simp) (by rfl) rfl fun w5 h5 => ⟨⟨h5.ld (b := k11) (by repeat (first | exact List.Mem.head _ | refine List.Mem.tail _ ?_)) rfl, h5.ld (b := k12) (by repeat (first | exact List.Mem.head _ | refine List.Mem.tail _ ?_)) rfl⟩, ?_⟩
      refine St.t h5 (c' := #[.slice (ptr g') (colL f c).length cp']) (by repeat (first | exact Turn.head | apply Turn.tail)) (by simp) (by rfl) rfl fun w6 h6 => ⟨⟨h6.ld (b := k11) (by repeat (first | exact List.Mem.head _ | refine List.Mem.tail _ ?_)) rfl, h6.ld (b := k12) (by repeat (first | exact List.Mem.head _ | refine List.Mem.tail _ ?_)) rfl⟩, ?_⟩
      refine St.t h6 (by repeat (first | exact Turn.head | apply Turn.tail)) (by simp) (by rfl) rfl fun w7 h7 => ⟨h7.got List.mem_cons_self, ?_⟩
      have h8 := h7.putTop (o' := .deferred none)
      refine ⟨_, _, _, h8.ld (b := k6) (by repeat (first | exact List.Mem.head _ | refine List.Mem.tail _ ?_)) rfl, _, _, _, h8.ld (b := k7) (by repeat (first | exact List.Mem.head _ | refine List.Mem.tail _ ?_)) rfl, _, h8.ld (b := k8) (by repeat (first | exact List.Mem.head _ | refine List.Mem.tail _ ?_)) rfl, ?_⟩
      refine ⟨g, cp, g', cp', by rw [colX_len], ?_⟩
      rw [colX_len]
      exact T.leave (Γ := [_, _]) h8.drop
end Go.Proofs.YtedbbdeeofdepaaGreat
end
section
/-! row: Lost, Filled, Sector, Write, Flush. -/
namespace Go.Proofs.YtedbbdeeofdepaaGreat
open Go.Sh Go.RowKit
set_option linter.unusedVariables false
set_option linter.unusedSimpArgs false
set_option maxRecDepth 20000
set_option maxHeartbeats 1000000
def misL (p : Nat → Bool) (n : Nat) : List Int := ((List.range n).filter p).map fun i : Nat => (i : Int)
theorem misL_yes {p : Nat → Bool} {n : Nat} (h : p n = true) : misL p (n + 1) = misL p n ++ [(n : Int)] := by
  unfold misL
  rw [List.range_succ]
  simp [h]
theorem misL_no {p : Nat → Bool} {n : Nat} (h : p n = false) : misL p (n + 1) = misL p n := by
  unfold misL
  rw [List.range_succ]
  simp [h]
theorem misL_le (p : Nat → Bool) (n : Nat) : (misL p n).length ≤ n := by
  unfold misL
  rw [List.length_map]
  exact Nat.le_trans (List.length_filter_le _ _) (by simp)
/-- which roles of a row are missing -/
def lostR (s : RwS) (ds : List Od) (bu : List Int) (row : Int) : Except Int (List Int) :=
  if atE s ds bu row 0 ≠ 0 then .error (atE s ds bu row 0) else .ok (misL (fun i => (builtO s ds bu row i).isNone) s.c.toNat)
def LoP (r : Except Int (List Int)) (w : World) (v : Value) (w' : World) : Prop := match r with
  | .error n => v = .tuple #[.slice none 0 0, .int .i64 n] ∧ Ext w w'
  | .ok x => ∃ g c, v = .tuple #[.slice (ptr g) x.length c, .int .i64 0] ∧ T [] w w' [rowP 3 1 g x.length c (intsI x)]
theorem odB_none (y : Od) : Option.isNone (ptr (odB y)) = y.isNone := by cases y <;> rfl
theorem lost16_spec {s : RwS} {ds : List Od} {bu : List Int} {w : World} (h : RwW s ds bu w) (hl : ds.length ≤ 1000000) (row : Int) :
    Calls Tryz.prog 22 #[.agg (rwC s ds.length bu.length), .int .i64 row] w fun e w' => ∃ v, e = .returned v ∧ LoP (lostR s ds bu row) w v w' := by
  refine row_Lost_calls ?_
  unfold row_Lost
  refine Alloc.t (T.nil w) fun k2 w1 h1 => ?_
  have h1 : T [] w w1 [blk k2 (rwC s ds.length bu.length) 30] := h1
  have c1 : ∀ i v, (rwC s ds.length bu.length)[i]? = some v → w1.cell? ⟨k2, i, none⟩ = some v := fun i v hv => h1.ld (by repeat (first | exact List.Mem.head _ | refine List.Mem.tail _ ?_)) hv
  refine ⟨_, _, _, _, _, _, _, _, _, ⟨c1 0 _ rfl, c1 1 _ rfl, c1 2 _ rfl, c1 3 _ rfl, c1 4 _ rfl⟩, ?_⟩
  refine (at_spec (h.ext h1.chg.ext) hl row 0).mono fun e w2 ⟨he2, hx2⟩ => ⟨_, _, _, _, _, _, _, _, _, _, _, _, he2, ?_⟩
  refine Alloc.t (h1.quiet hx2) fun k6 w3 h3 => ?_
  refine st7 h3 .head rfl rfl rfl rfl rfl rfl rfl fun w4 h4 => ?_
  have h4 : T [] w w4 [blk k6 (plC s ds.length bu.length row 0) 74, blk k2 (rwC s ds.length bu.length) 30] := h4
  unfold lostR
  refine ⟨bne_t fun hn => ?_, bne_f fun hz => ?_⟩
  · rw [if_pos hn]
    exact ⟨rfl, h4.chg.ext⟩
  rw [if_neg (by omega)]
  obtain ⟨hM, hr, ho⟩ := atE_zero hz
  have hc := hM.1.1
  have hc2 := hM.1.2.1
  refine ⟨_, h4.ld (b := k2) (c := rwC s ds.length bu.length) (by repeat (first | exact List.Mem.head _ | refine List.Mem.tail _ ?_)) rfl, ?_⟩
  have h5 := T.nilRow h4 3 1
  generalize hf : (fun i : Nat => (builtO s ds bu row (i : Int)).isNone) = f
  have hfi : ∀ i : Nat, (builtO s ds bu row (i : Int)).isNone = f i := fun i => by rw [← hf]
  refine ⟨fun vs w' => ∃ (i : Nat) (g : Option Nat) (cp : Nat), vs = [.slice (ptr g) (misL f i).length cp, .int .i64 (i : Int)] ∧ (i : Int) ≤ s.c ∧ T [] w w' [rowP 3 1 g (misL f i).length cp (intsI (misL f i)), blk k6 (plC s ds.length bu.length row 0) 74, blk k2 (rwC s ds.length bu.length) 30], fun vs _ => match vs with | [_, .int _ i] => (s.c - i).toNat | _ => 0, ⟨0, none, 0, rfl, by omega, h5⟩, ?_⟩
  rintro vs w5 ⟨i, g, cp, rfl, hi, h6⟩
  refine ⟨_, _, _, _, rfl, dec_t fun hlt => ?_, dec_f fun hge => ?_⟩
  · have c6 : ∀ j v, (plC s ds.length bu.length row 0)[j]? = some v → w5.cell? ⟨k6, j, none⟩ = some v := fun j v hv => h6.ld (b := k6) (by repeat (first | exact List.Mem.head _ | refine List.Mem.tail _ ?_)) hv
    refine ⟨_, _, _, _, _, _, _, _, _, _, _, ⟨c6 0 _ rfl, c6 1 _ rfl, c6 2 _ rfl, c6 3 _ rfl, c6 4 _ rfl, c6 5 _ rfl, c6 6 _ rfl⟩, ?_⟩
    refine (built_spec (h.ext h6.chg.ext) hM (off := 0) hr (role := (i : Int)) ⟨by omega, hlt⟩).mono fun e w6 ⟨he6, hx6⟩ => ⟨_, he6, ?_⟩
    have h7 := h6.quiet hx6
    rw [odB_none, hfi]
    have hle := misL_le f i
    have hdec : (s.c - IntKind.i64.wrap ((i : Int) + 1)).toNat < (s.c - (i : Int)).toNat := by rw [wrap64 _ (by omega) (by omega)]; omega
    have hwr : IntKind.i64.wrap ((i : Int) + 1) = ((i + 1 : Nat) : Int) := by rw [wrap64 _ (by omega) (by omega)]; rfl
    cases hp : f i with
    | true =>
      refine yes rfl ?_
      refine push1_t (i := Tryz.t3) (z := .int .i64 0) (by kernel_rfl) (by kernel_rfl) (by kernel_rfl) (by kernel_rfl) (by kernel_rfl) (by kernel_rfl) h7 .head rfl (by omega) fun g2 cp2 w7 h8 => ?_
      rw [intsI_snoc, ← misL_yes hp] at h8
      have hl2 : (misL f (i + 1)).length = (misL f i).length + 1 := by rw [misL_yes hp]; simp
      rw [← hl2] at h8 ⊢
      exact ⟨⟨i + 1, g2, cp2, by rw [hwr], by omega, h8⟩, hdec⟩
    | false =>
      refine no rfl ⟨⟨i + 1, g, cp, ?_, by omega, ?_⟩, hdec⟩
      · rw [hwr, misL_no hp]
      · rw [misL_no hp]; exact h7
  · have : i = s.c.toNat := by omega
    subst this
    exact ⟨g, cp, rfl, T.leave (Γ := [_]) h6⟩
open Classical in
/-- what is filled of a row -/
noncomputable def filR (s : RwS) (ds : List Od) (bu : List Int) (row off : Int) : Except Int (List Txt × List Int) := match readR s ds bu row off with
  | .error n => .error n
  | .ok x => if OkM x.1 x.2 then (if x.2.length ≤ 2 then .ok (fillF x.1 x.2, x.2) else .error 60) else .error 1
theorem secR_size {s : RwS} {ds : List Od} {bu : List Int} {w : World} (h : RwW s ds bu w) (row off role : Int) : (secR s ds bu row off role).1.size ≤ 64 := by
  unfold secR
  cases hb : builtO s ds bu row role with
  | none => show 0 ≤ 64; omega
  | some x =>
    obtain ⟨p, a⟩ := x
    obtain ⟨F, w0, X, hd⟩ := h.drive (builtO_get hb)
    exact hd.read_size _
theorem readR_ok {s : RwS} {ds : List Od} {bu : List Int} {row off : Int} {X : List Txt} {l : List Int} (h : readR s ds bu row off = .ok (X, l)) : atE s ds bu row off = 0 ∧ (∀ i : Nat, (i : Int) < s.c → (secR s ds bu row off i).2 ≠ 42) ∧ X = colX (fun i => secR s ds bu row off i) s.c.toNat ∧ l = colL (fun i => secR s ds bu row off i) s.c.toNat := by
  unfold readR at h
  split at h
  · cases h
  rename_i h0
  split at h
  · cases h
  rename_i h1
  cases h
  refine ⟨by omega, fun i hi he => h1 (List.any_eq_true.2 ⟨i, List.mem_range.2 (by omega), by rw [he]; rfl⟩), rfl, rfl⟩
theorem readR_err {s : RwS} {ds : List Od} {bu : List Int} {row off n : Int} (h : readR s ds bu row off = .error n) : n ≠ 0 := by
  unfold readR at h
  split at h
  · cases h; assumption
  split at h
  · cases h; decide
  · cases h
open Classical in
theorem filled16_spec {s : RwS} {ds : List Od} {bu : List Int} {w : World} (h : RwW s ds bu w) (hl : ds.length ≤ 1000000) (hF : FewL ds 1000000) (row off : Int) :
    Calls Tryz.prog 18 #[.agg (rwC s ds.length bu.length), .int .i64 row, .int .i64 off] w fun e w' => ∃ v, e = .returned v ∧ RdP (filR s ds bu row off) w v w' := by
  refine row_Filled_calls ?_
  unfold row_Filled
  refine Alloc.t (T.nil w) fun k3 w1 h1 => ?_
  have h1 : T [] w w1 [blk k3 (rwC s ds.length bu.length) 30] := h1
  have c1 : ∀ i v, (rwC s ds.length bu.length)[i]? = some v → w1.cell? ⟨k3, i, none⟩ = some v := fun i v hv => h1.ld (by repeat (first | exact List.Mem.head _ | refine List.Mem.tail _ ?_)) hv
  refine ⟨_, _, _, _, _, _, _, _, _, ⟨c1 0 _ rfl, c1 1 _ rfl, c1 2 _ rfl, c1 3 _ rfl, c1 4 _ rfl⟩, ?_⟩
  refine (read16_spec (h.ext h1.chg.ext) hl hF row off).mono fun e w2 ⟨v, he, hv⟩ => ?_
  unfold filR
  cases hR : readR s ds bu row off with
  | error n =>
    rw [hR] at hv
    obtain ⟨rfl, hx⟩ := hv
    exact ⟨_, _, _, _, _, _, _, he, yes (by simpa using readR_err hR) ⟨rfl, h1.chg.ext.trans hx⟩⟩
  | ok x =>
    obtain ⟨X, l⟩ := x
    rw [hR] at hv
    obtain ⟨g, c, g', c', rfl, hT⟩ := hv
    refine ⟨_, _, _, _, _, _, _, he, no rfl ?_⟩
    obtain ⟨hz, h42, hX, hL⟩ := readR_ok hR
    obtain ⟨hM, hr, ho⟩ := atE_zero hz
    have hc := hM.1.1
    have hc2 := hM.1.2.1
    have hXl : X.length = s.c.toNat := by rw [hX, colX_len]
    have hll : l.length ≤ s.c.toNat := by rw [hL]; exact colL_le _ _
    have hS : Short X := by
      intro x hx
      rw [hX] at hx
      obtain ⟨i, _, rfl⟩ := List.mem_map.1 hx
      have := secR_size h row off i
      have h3 : ((secR s ds bu row off (i : Int)).1.data.toList).length = (secR s ds bu row off (i : Int)).1.size := by rw [Array.length_toList]; rfl
      show ((secR s ds bu row off (i : Int)).1.data.toList).length ≤ _
      omega
    have s1 := (T.strs hT (g := g) (L := X) (by repeat (first | exact List.Mem.head _ | refine List.Mem.tail _ ?_))).1
    have s2 := (T.ints hT (g := g') (l := l) (by repeat (first | exact List.Mem.head _ | refine List.Mem.tail _ ?_))).1
    refine (fill_spec (by omega) (by omega) hS s1 s2 (c := c) (d := c')).mono fun e2 w3 hh => ?_
    rcases hh with ⟨hO, h2, b, cap, he2, hT2⟩ | ⟨n, hn, he2, hx, h1', h2'⟩
    · refine ⟨_, _, _, _, he2, no rfl ?_⟩
      show RdP (if OkM X l then (if l.length ≤ 2 then .ok (fillF X l, l) else .error 60) else .error 1) w _ w3
      rw [if_pos hO, if_pos h2]
      have hfl : (fillF X l).length = X.length := by
        have := rowP.len (T.says hT2 (by repeat (first | exact List.Mem.head _ | refine List.Mem.tail _ ?_)))
        rw [txts_len] at this
        omega
      have hT1 : T [] w w2 ([rowP 9 1 g X.length c (txts X), rowP 3 1 g' l.length c' (intsI l)] ++ [blk k3 (rwC s ds.length bu.length) 30]) := T.call (Γ := []) h1 hT
      refine ⟨some b, cap, g', c', by rw [hfl]; rfl, ?_⟩
      rw [hfl]
      exact T.leave (Γ := [_, _]) (Δ := [blk k3 (rwC s ds.length bu.length) 30]) (T.call (Γ := []) (Γ' := [rowP 9 1 (some b) X.length cap (txts (fillF X l))]) (T.drop hT1) hT2)
    · refine ⟨_, _, _, _, he2, yes (by simpa using hn) ?_⟩
      have hT1 : T [] w w2 ([rowP 9 1 g X.length c (txts X), rowP 3 1 g' l.length c' (intsI l)] ++ [blk k3 (rwC s ds.length bu.length) 30]) := T.call (Γ := []) h1 hT
      show RdP (if OkM X l then (if l.length ≤ 2 then .ok (fillF X l, l) else .error 60) else .error 1) w _ w3
      by_cases hO : OkM X l
      · obtain ⟨h2, rfl⟩ := h1' hO
        rw [if_pos hO, if_neg (by omega)]
        exact ⟨rfl, hT1.chg.ext.trans hx⟩
      · obtain rfl := h2' hO
        rw [if_neg hO]
        exact ⟨rfl, hT1.chg.ext.trans hx⟩
/-- one sector of data -/
noncomputable def sectR (s : RwS) (ds : List Od) (bu : List Int) (row off i : Int) : ByteArray × Int :=
  if atE s ds bu row off ≠ 0 then (noB, atE s ds bu row off) else if i < 0 ∨ i ≥ s.c - 2 then (noB, 70) else if (secR s ds bu row off i).2 ≠ 41 then secR s ds bu row off i else match filR s ds bu row off with
  | .error n => (noB, n)
  | .ok x => (strB (x.1.getD i.toNat []), 0)
theorem filR_err {s : RwS} {ds : List Od} {bu : List Int} {row off n : Int} (h : filR s ds bu row off = .error n) : n ≠ 0 := by
  unfold filR at h
  split at h
  · rename_i hr; cases h; exact readR_err hr
  · split at h
    · split at h
      · cases h
      · cases h; decide
    · cases h; decide
theorem fillF_len (L : List Txt) (l : List Int) : (fillF L l).length = L.length := by
  unfold fillF fillS fillK
  (repeat' split) <;> simp [parF, parP_len, rparQ, byPL_len, byQL_len, zerL_len, bothL]
theorem filR_len {s : RwS} {ds : List Od} {bu : List Int} {row off : Int} {x : List Txt × List Int} (h : filR s ds bu row off = .ok x) : x.1.length = s.c.toNat := by
  unfold filR at h
  split at h
  · cases h
  · rename_i y hr
    obtain ⟨_, _, hX, _⟩ := readR_ok (X := y.1) (l := y.2) hr
    split at h
    · split at h
      · cases h
        show (fillF y.1 y.2).length = _
        rw [fillF_len, hX, colX_len]
      · cases h
    · cases h
theorem set16_spec {s : RwS} {ds : List Od} {bu : List Int} {w : World} (h : RwW s ds bu w) (hl : ds.length ≤ 1000000) (hF : FewL ds 1000000) (row off i : Int) :
    Ret Tryz.prog 16 #[.agg (rwC s ds.length bu.length), .int .i64 row, .int .i64 off, .int .i64 i] w (.tuple #[.string (sectR s ds bu row off i).1, .int .i64 (sectR s ds bu row off i).2]) := by
  refine ret_of (row_Sector_calls ?_)
  unfold row_Sector
  refine Alloc.t (T.nil w) fun k4 w1 h1 => ?_
  have h1 : T [] w w1 [blk k4 (rwC s ds.length bu.length) 30] := h1
  have c1 : ∀ {w' : World} {Γ : List A}, T [] w w' Γ → blk k4 (rwC s ds.length bu.length) 30 ∈ Γ → ∀ i v, (rwC s ds.length bu.length)[i]? = some v → w'.cell? ⟨k4, i, none⟩ = some v := fun h' hm i v hv => h'.ld hm hv
  refine ⟨_, _, _, _, _, _, _, _, _, ⟨c1 h1 (by repeat (first | exact List.Mem.head _ | refine List.Mem.tail _ ?_)) 0 _ rfl, c1 h1 (by repeat (first | exact List.Mem.head _ | refine List.Mem.tail _ ?_)) 1 _ rfl, c1 h1 (by repeat (first | exact List.Mem.head _ | refine List.Mem.tail _ ?_)) 2 _ rfl, c1 h1 (by repeat (first | exact List.Mem.head _ | refine List.Mem.tail _ ?_)) 3 _ rfl, c1 h1 (by repeat (first | exact List.Mem.head _ | refine List.Mem.tail _ ?_)) 4 _ rfl⟩, ?_⟩
  refine (at_spec (h.ext h1.chg.ext) hl row off).mono fun e w2 ⟨he2, hx2⟩ => ⟨_, _, _, _, _, _, _, _, _, _, _, _, he2, ?_⟩
  refine Alloc.t (h1.quiet hx2) fun k6 w3 h3 => ?_
  refine st7 h3 .head rfl rfl rfl rfl rfl rfl rfl fun w4 h4 => ?_
  have h4 : T [] w w4 [blk k6 (plC s ds.length bu.length row off) 74, blk k4 (rwC s ds.length bu.length) 30] := h4
  unfold sectR
  refine ⟨bne_t fun hn => ?_, bne_f fun hz => ?_⟩
  · rw [if_pos hn]
    exact ⟨rfl, h4.chg.ext⟩
  rw [if_neg (by omega)]
  obtain ⟨hM, hr, ho⟩ := atE_zero hz
  have hc := hM.1.1
  have hc2 := hM.1.2.1
  refine ⟨dec_t fun hi => ⟨by rw [if_pos (by omega)], h4.chg.ext⟩, dec_f fun hi => ⟨_, c1 h4 (by repeat (first | exact List.Mem.head _ | refine List.Mem.tail _ ?_)) 0 _ rfl, ?_⟩⟩
  rw [wrap64 (s.c - 2) (by omega) (by omega)]
  refine ⟨dec_t fun hi2 => ⟨by rw [if_pos (by omega)], h4.chg.ext⟩, dec_f fun hi2 => ?_⟩
  rw [if_neg (by omega)]
  have c6 : ∀ j v, (plC s ds.length bu.length row off)[j]? = some v → w4.cell? ⟨k6, j, none⟩ = some v := fun j v hv => h4.ld (b := k6) (by repeat (first | exact List.Mem.head _ | refine List.Mem.tail _ ?_)) hv
  refine ⟨_, _, _, _, _, _, _, _, _, _, _, ⟨c6 0 _ rfl, c6 1 _ rfl, c6 2 _ rfl, c6 3 _ rfl, c6 4 _ rfl, c6 5 _ rfl, c6 6 _ rfl⟩, ?_⟩
  refine (sector16_spec (h.ext h4.chg.ext) hF hM (off := off) hr (role := i) ⟨by omega, by omega⟩).mono fun e w5 ⟨he5, hx5⟩ => ⟨_, _, he5, bne_t fun hn => ?_, bne_f fun h41 => ?_⟩
  · rw [if_pos hn]
    exact ⟨rfl, h4.chg.ext.trans hx5⟩
  rw [if_neg (by omega)]
  have h5 := h4.quiet hx5
  refine ⟨_, _, _, _, _, _, _, _, _, ⟨c1 h5 (by repeat (first | exact List.Mem.head _ | refine List.Mem.tail _ ?_)) 0 _ rfl, c1 h5 (by repeat (first | exact List.Mem.head _ | refine List.Mem.tail _ ?_)) 1 _ rfl, c1 h5 (by repeat (first | exact List.Mem.head _ | refine List.Mem.tail _ ?_)) 2 _ rfl, c1 h5 (by repeat (first | exact List.Mem.head _ | refine List.Mem.tail _ ?_)) 3 _ rfl, c1 h5 (by repeat (first | exact List.Mem.head _ | refine List.Mem.tail _ ?_)) 4 _ rfl⟩, ?_⟩
  refine (filled16_spec (h.ext h5.chg.ext) hl hF row off).mono fun e w6 ⟨v, he, hv⟩ => ?_
  cases hR : filR s ds bu row off with
  | error n =>
    rw [hR] at hv
    obtain ⟨rfl, hx⟩ := hv
    exact ⟨_, _, _, _, _, _, _, he, yes (by simpa using filR_err hR) ⟨rfl, h5.chg.ext.trans hx⟩⟩
  | ok x =>
    rw [hR] at hv
    obtain ⟨g, c, g', c', rfl, hT⟩ := hv
    have hlen := filR_len hR
    refine ⟨_, _, _, _, _, _, _, he, no rfl ?_⟩
    have s1 := (T.strs hT (g := g) (L := x.1) (by repeat (first | exact List.Mem.head _ | refine List.Mem.tail _ ?_))).1
    obtain ⟨a, ha, hcell⟩ := s1.get (n := i.toNat) (by omega)
    exact ⟨a, ha, by omega, by omega, _, hcell, rfl, h5.chg.ext.trans hT.chg.ext⟩
/-- what Write answers, and what is then on the drives -/
def writeE (s : RwS) (ds : List Od) (bu : List Int) (row off role : Int) (x : ByteArray) : Int :=
  if atE s ds bu row off ≠ 0 then atE s ds bu row off else if role < 0 ∨ role ≥ s.c then 70 else match thereO ds (colR s row role).toNat with
  | none => 40
  | some y => y.2.put (sectorG s.c s.k s.r row off) x
def writeD (s : RwS) (ds : List Od) (bu : List Int) (row off role : Int) (x : ByteArray) : List Od :=
  if atE s ds bu row off ≠ 0 then ds else if role < 0 ∨ role ≥ s.c then ds else match thereO ds (colR s row role).toNat with
  | none => ds
  | some y => ds.set (colR s row role).toNat (some (y.1, y.2.write (sectorG s.c s.k s.r row off) x))
theorem write16_spec {s : RwS} {ds : List Od} {bu : List Int} {F : List Nat} {w0 w : World} {X : List A} (H : Ow (dsK ds) F w0 w X) (hp : ptrsAt w s.pd (blks ds)) (hb : intsL w s.pb bu) (hl : ds.length ≤ 1000000) (hF : FewL ds 1000000) (row off role : Int) (x : ByteArray) :
    Calls Tryz.prog 13 #[.agg (rwC s ds.length bu.length), .int .i64 row, .int .i64 off, .int .i64 role, .string x] w fun e w' => e = .returned (.int .i64 (writeE s ds bu row off role x)) ∧ Ow (dsK (writeD s ds bu row off role x)) F w0 w' X := by
  refine (row_Write_calls (R := fun v w' => v = .int .i64 (writeE s ds bu row off role x) ∧ Ow (dsK (writeD s ds bu row off role x)) F w0 w' X) ?_).mono fun e w' ⟨v, he, hv, h⟩ => ⟨by rw [he, hv], h⟩
  unfold row_Write
  have h : RwW s ds bu w := ⟨⟨F, w0, X, H⟩, hp, hb⟩
  refine Alloc.t (T.nil w) fun k5 w1 h1 => ?_
  have h1 : T [] w w1 [blk k5 (rwC s ds.length bu.length) 30] := h1
  have c1 : ∀ {w' : World} {Γ : List A}, T [] w w' Γ → blk k5 (rwC s ds.length bu.length) 30 ∈ Γ → ∀ i v, (rwC s ds.length bu.length)[i]? = some v → w'.cell? ⟨k5, i, none⟩ = some v := fun h' hm i v hv => h'.ld hm hv
  refine ⟨_, _, _, _, _, _, _, _, _, ⟨c1 h1 (by repeat (first | exact List.Mem.head _ | refine List.Mem.tail _ ?_)) 0 _ rfl, c1 h1 (by repeat (first | exact List.Mem.head _ | refine List.Mem.tail _ ?_)) 1 _ rfl, c1 h1 (by repeat (first | exact List.Mem.head _ | refine List.Mem.tail _ ?_)) 2 _ rfl, c1 h1 (by repeat (first | exact List.Mem.head _ | refine List.Mem.tail _ ?_)) 3 _ rfl, c1 h1 (by repeat (first | exact List.Mem.head _ | refine List.Mem.tail _ ?_)) 4 _ rfl⟩, ?_⟩
  refine (at_spec (h.ext h1.chg.ext) hl row off).mono fun e w2 ⟨he2, hx2⟩ => ⟨_, _, _, _, _, _, _, _, _, _, _, _, he2, ?_⟩
  refine Alloc.t (h1.quiet hx2) fun k6 w3 h3 => ?_
  refine st7 h3 .head rfl rfl rfl rfl rfl rfl rfl fun w4 h4 => ?_
  have h4 : T [] w w4 [blk k6 (plC s ds.length bu.length row off) 74, blk k5 (rwC s ds.length bu.length) 30] := h4
  unfold writeE writeD
  refine ⟨bne_t fun hn => ?_, bne_f fun hz => ?_⟩
  · rw [if_pos hn, if_pos hn]
    exact ⟨rfl, H.quiet h4.chg.ext⟩
  have hnz : ¬ (atE s ds bu row off ≠ 0) := by omega
  rw [if_neg hnz, if_neg hnz]
  obtain ⟨hM, hr, ho⟩ := atE_zero hz
  have hc := hM.1.1
  have hc2 := hM.1.2.1
  refine ⟨dec_t fun hi => ?_, dec_f fun hi => ⟨_, c1 h4 (by repeat (first | exact List.Mem.head _ | refine List.Mem.tail _ ?_)) 0 _ rfl, ?_⟩⟩
  · rw [if_pos (.inl hi), if_pos (.inl hi)]
    exact ⟨rfl, H.quiet h4.chg.ext⟩
  refine ⟨dec_t fun hi2 => ?_, dec_f fun hi2 => ?_⟩
  · rw [if_pos (.inr hi2), if_pos (.inr hi2)]
    exact ⟨rfl, H.quiet h4.chg.ext⟩
  have hnr : ¬ (role < 0 ∨ role ≥ s.c) := by omega
  rw [if_neg hnr, if_neg hnr]
  obtain ⟨j0, j1⟩ := colR_in hM.1 hr (role := role) ⟨by omega, by omega⟩
  have hdl := hM.2.1
  refine lex_t h4 fun h5 => ?_
  have c6 : ∀ {w' : World}, T [] w w' [blk k6 (plC s ds.length bu.length row off) 74, blk k5 (rwC s ds.length bu.length) 30] → ∀ j v, (plC s ds.length bu.length row off)[j]? = some v → w'.cell? ⟨k6, j, none⟩ = some v := fun h' j v hv => h'.ld (b := k6) (by repeat (first | exact List.Mem.head _ | refine List.Mem.tail _ ?_)) hv
  refine ⟨_, _, _, _, _, _, _, _, _, fun w' h' => ⟨c6 h' 0 _ rfl, c6 h' 1 _ rfl, c6 h' 2 _ rfl, c6 h' 3 _ rfl, c6 h' 4 _ rfl⟩, ?_⟩
  refine ⟨_, _, _, _, _, _, _, _, _, _, _, fun w' h' => ⟨c6 h' 0 _ rfl, c6 h' 1 _ rfl, c6 h' 2 _ rfl, c6 h' 3 _ rfl, c6 h' 4 _ rfl, c6 h' 5 _ rfl, c6 h' 6 _ rfl⟩, ?_⟩
  refine (column16_spec (s := s) (n := ds.length) (m := bu.length) (off := off) ⟨hc, hc2⟩ _).mono fun e w6 ⟨he6, hx6⟩ => ⟨_, he6, h5.quiet hx6, ?_⟩
  have h6 := h5.quiet hx6
  obtain ⟨col, hcol⟩ : ∃ col : Nat, colR s row role = (col : Int) := ⟨(colR s row role).toNat, by omega⟩
  rw [hcol] at j1 ⊢
  rw [Int.toNat_natCast]
  refine (there_spec (h.ext h6.chg.ext) (col := col) (by omega) (m := bu.length)).mono fun e w7 ⟨he7, hx7⟩ => ⟨_, he7, h6.quiet hx7, ?_⟩
  have h7 := h6.quiet hx7
  have hb : ∀ p a, thereO ds col = some (p, a) → ds[col]? = some (some (p, a)) := fun p a hb => (thereO_get hb).1
  generalize thereO ds col = y at hb
  cases y with
  | none => exact yes rfl ⟨rfl, H.quiet h7.chg.ext⟩
  | some z =>
    obtain ⟨p, a⟩ := z
    have hk := hb p a rfl
    refine no rfl ⟨_, _, _, ⟨c1 h7 (by repeat (first | exact List.Mem.head _ | refine List.Mem.tail _ ?_)) 0 _ rfl, c1 h7 (by repeat (first | exact List.Mem.head _ | refine List.Mem.tail _ ?_)) 1 _ rfl, c1 h7 (by repeat (first | exact List.Mem.head _ | refine List.Mem.tail _ ?_)) 2 _ rfl⟩, ?_⟩
    refine (sector_spec s.c s.k s.r row off w7).mono fun e w8 ⟨he8, hx8⟩ => ⟨_, he8, ?_⟩
    refine (Ow.onDrive (H.quiet (h7.chg.ext.trans hx8)) hk fun Z hZ => write_a hZ (hF p a (List.mem_of_getElem? hk)) (sectorG s.c s.k s.r row off) x).mono fun e w9 ⟨he9, h9⟩ => ⟨_, he9, rfl, h9⟩
/-- what Flush answers, and what is then on the drives -/
def flushO (x : Od) : Od := x.map fun y => (y.1, y.2.flush)
def offO (x : Od) : Bool := match x with
  | some y => y.2.flush1 == 42
  | none => false
theorem flush16_spec {s : RwS} {ds : List Od} {bu : List Int} {F : List Nat} {w0 w : World} {X : List A} (H : Ow (dsK ds) F w0 w X) (hX : ∀ w', T F w0 w' X → ptrsAt w' s.pd (blks ds) ∧ intsL w' s.pb bu) (hl : ds.length ≤ 1000000) (hF : FewL ds 1000000) :
    Calls Tryz.prog 19 #[.agg (rwC s ds.length bu.length)] w fun e w' => e = .returned (.int .i64 (if RMay s ds bu then (if ds.any offO then 42 else 0) else 1)) ∧ Ow (dsK (if RMay s ds bu then ds.map flushO else ds)) F w0 w' X := by
  refine (row_Flush_calls (R := fun v w' => v = .int .i64 (if RMay s ds bu then (if ds.any offO then 42 else 0) else 1) ∧ Ow (dsK (if RMay s ds bu then ds.map flushO else ds)) F w0 w' X) ?_).mono fun e w' ⟨v, he, hv, h⟩ => ⟨by rw [he, hv], h⟩
  unfold row_Flush
  refine Ow.alloc H fun k1 w1 H1 => ?_
  have H1 : Ow (dsK ds) F w0 w1 (blk k1 (rwC s ds.length bu.length) 30 :: X) := H1
  have c1 : ∀ {w' : World} {h : Kd}, Ow h F w0 w' (blk k1 (rwC s ds.length bu.length) 30 :: X) → ∀ i v, (rwC s ds.length bu.length)[i]? = some v → w'.cell? ⟨k1, i, none⟩ = some v := fun h' i v hv => h'.ld List.mem_cons_self hv
  refine ⟨_, _, _, _, _, _, _, _, _, ⟨c1 H1 0 _ rfl, c1 H1 1 _ rfl, c1 H1 2 _ rfl, c1 H1 3 _ rfl, c1 H1 4 _ rfl⟩, ?_⟩
  have hX1 := hX _ (T.drop H1.under)
  refine (may16_spec ⟨⟨_, _, _, H1⟩, hX1.1, hX1.2⟩ hl).mono fun e w2 ⟨he2, hx2⟩ => ⟨_, he2, ?_⟩
  have H2 := H1.quiet hx2
  by_cases hM : RMay s ds bu
  · rw [if_pos hM, if_pos hM]
    refine no (by rw [decide_eq_true hM]; rfl) ⟨_, _, _, c1 H2 3 _ rfl, ?_⟩
    refine ⟨fun vs w' => ∃ i : Nat, vs = [.bool ((ds.take i).any offO), .int .i64 (i : Int)] ∧ i ≤ ds.length ∧ Ow (dsK ((ds.take i).map flushO ++ ds.drop i)) F w0 w' (blk k1 (rwC s ds.length bu.length) 30 :: X), fun vs _ => match vs with | [_, .int _ i] => (ds.length - i).toNat | _ => 0, ⟨0, rfl, by omega, by simpa using H2⟩, ?_⟩
    rintro vs w3 ⟨i, rfl, hi, H3⟩
    refine ⟨_, _, rfl, dec_t fun hlt => ?_, dec_f fun hge => ?_⟩
    · have hlt : i < ds.length := by omega
      have hX3 := hX _ (T.drop H3.under)
      have hbl : blks ((ds.take i).map flushO ++ ds.drop i) = blks ds := by
        unfold blks
        have e1 : ∀ y : Od, odB (flushO y) = odB y := fun y => by cases y <;> rfl
        rw [List.map_append, List.map_map, show odB ∘ flushO = odB from funext e1, ← List.map_append, List.take_append_drop]
      have hlen : ((ds.take i).map flushO ++ ds.drop i).length = ds.length := by
        have := congrArg List.length hbl
        rwa [blks_len, blks_len] at this
      have hW : RwW s ((ds.take i).map flushO ++ ds.drop i) bu w3 := ⟨⟨_, _, _, H3⟩, by rw [hbl]; exact hX3.1, hX3.2⟩
      have htl : ((ds.take i).map flushO).length = i := by rw [List.length_map, List.length_take]; omega
      have hgi : ((ds.take i).map flushO ++ ds.drop i)[i]? = some ds[i] := by
        rw [List.getElem?_append_right (by rw [htl]; exact Nat.le_refl _), htl, Nat.sub_self, List.getElem?_drop, Nat.add_zero, List.getElem?_eq_getElem hlt]
      have hset : ∀ z, ((ds.take i).map flushO ++ ds.drop i).set i z = (ds.take i).map flushO ++ z :: ds.drop (i + 1) := fun z => by
        rw [List.set_append_right _ _ (by rw [htl]; exact Nat.le_refl _), htl, Nat.sub_self, List.drop_eq_getElem_cons hlt]; rfl
      have hnext : ∀ z, z = flushO ds[i] → (ds.take i).map flushO ++ z :: ds.drop (i + 1) = (ds.take (i + 1)).map flushO ++ ds.drop (i + 1) := fun z hz => by
        rw [hz, List.take_add_one, List.getElem?_eq_getElem hlt, List.map_append]; simp only [Option.toList, List.map_cons, List.map_nil, List.append_assoc, List.singleton_append]
      have hany : ∀ b, b = offO ds[i] → ((ds.take i).any offO || b) = (ds.take (i + 1)).any offO := fun b hb => by
        rw [hb, List.take_add_one, List.getElem?_eq_getElem hlt, List.any_append]; simp
      have hkeep : flushO ds[i] = ds[i] → Ow (dsK ((ds.take i).map flushO ++ ds.drop i)) F w0 w3 (blk k1 (rwC s ds.length bu.length) 30 :: X) := fun _ => H3
      have hwr : IntKind.i64.wrap ((i : Int) + 1) = ((i + 1 : Nat) : Int) := by rw [wrap64 _ (by omega) (by omega)]; rfl
      have hdec : ((ds.length : Int) - IntKind.i64.wrap ((i : Int) + 1)).toNat < ((ds.length : Int) - (i : Int)).toNat := by rw [wrap64 _ (by omega) (by omega)]; omega
      refine ⟨_, _, _, _, _, _, _, _, _, ⟨c1 H3 0 _ rfl, c1 H3 1 _ rfl, c1 H3 2 _ rfl, c1 H3 3 _ rfl, c1 H3 4 _ rfl⟩, ?_⟩
      have ht := there_spec hW (col := i) (by omega) (m := bu.length)
      rw [hlen] at ht
      refine ht.mono fun e w4 ⟨he4, hx4⟩ => ⟨_, he4, ?_⟩
      have hth : thereO ((ds.take i).map flushO ++ ds.drop i) i = match ds[i] with
          | some x => if x.2.dead then none else some x
          | none => none := by unfold thereO; rw [List.getD_eq_getElem?_getD, hgi]; rfl
      have hself : ∀ {w' : World}, flushO ds[i] = ds[i] → Ow (dsK ((ds.take i).map flushO ++ ds.drop i)) F w0 w' (blk k1 (rwC s ds.length bu.length) 30 :: X) → Ow (dsK ((ds.take (i + 1)).map flushO ++ ds.drop (i + 1))) F w0 w' (blk k1 (rwC s ds.length bu.length) 30 :: X) := fun hs h => by
        rw [← hnext ds[i] hs.symm, ← hset, set_get_same hgi]; exact h
      have hmem : ds[i] ∈ ds := List.getElem_mem hlt
      generalize ds[i] = y at hgi hnext hany hself hmem hth
      cases y with
      | none =>
        rw [hth]
        refine no rfl ⟨⟨i + 1, ?_, by omega, hself rfl (H3.quiet hx4)⟩, hdec⟩
        rw [hwr, ← hany false rfl, Bool.or_false]
      | some z =>
        obtain ⟨p, a⟩ := z
        by_cases hd : a.dead = true
        · have hfl : a.flush1 = 40 := by unfold AD.flush1; rw [if_pos hd]
          have hff : a.flush = a := by unfold AD.flush; rw [if_pos (by rw [hfl]; decide)]
          rw [hth.trans (show (if a.dead then none else some (p, a)) = none by rw [hd]; rfl)]
          refine no rfl ⟨⟨i + 1, ?_, by omega, hself (by show some (p, a.flush) = _; rw [hff]) (H3.quiet hx4)⟩, hdec⟩
          rw [hwr, ← hany false (by show false = (a.flush1 == 42); rw [hfl]; rfl), Bool.or_false]
        · have hd : a.dead = false := by simpa using hd
          rw [hth.trans (show (if a.dead then none else some (p, a)) = some (p, a) by rw [hd]; rfl)]
          refine yes rfl ?_
          refine (Ow.onDrive (H3.quiet hx4) hgi fun Z hZ => flush_a hZ (hF p a hmem)).mono fun e w5 ⟨he5, h5⟩ => ⟨_, he5, ?_⟩
          rw [hset, hnext (some (p, a.flush)) rfl] at h5
          refine ⟨beq_t fun h42 => ⟨⟨i + 1, ?_, by omega, h5⟩, hdec⟩, beq_f fun h42 => ⟨⟨i + 1, ?_, by omega, h5⟩, hdec⟩⟩
          · rw [hwr, ← hany true (by show true = (a.flush1 == 42); rw [h42]; rfl), Bool.or_true]
          · rw [hwr, ← hany false (by show false = (a.flush1 == 42); rw [beq_eq_false_iff_ne.2 h42]), Bool.or_false]
    · obtain rfl : i = ds.length := by omega
      rw [List.take_length, List.drop_length, List.append_nil] at H3
      rw [List.take_length]
      cases hb : ds.any offO with
      | true => exact yes rfl ⟨rfl, H3.dropX⟩
      | false => exact no rfl ⟨rfl, H3.dropX⟩
  · rw [if_neg hM, if_neg hM]
    exact yes (by rw [decide_eq_false hM]; rfl) ⟨rfl, H2.dropX⟩
end Go.Proofs.YtedbbdeeofdepaaGreat
end
section
/-! row: the law's pairs of sets. -/
namespace Go.Proofs.YtedbbdeeofdepaaGreat
open Go.Sh Go.RowKit
set_option linter.unusedVariables false
set_option linter.unusedSimpArgs false
set_option maxRecDepth 20000
set_option maxHeartbeats 1000000
/-- parts made by a call, over what there was -/
theorem Ow.over {h : Kd} {F : List Nat} {w0 w w' : World} {X Γ : List A} (H : Ow h [] w w' X) (hT : T F w0 w Γ) : Ow h F w0 w' (X ++ Γ) := by
  obtain ⟨Y, hY, h1⟩ := H
  have h2 : T F w0 w' ((X ++ Y) ++ Γ) := T.call (Γ := []) hT h1
  refine ⟨Y, hY, h2.swap ?_⟩
  rw [List.append_assoc, List.append_assoc]
  exact List.Perm.append_left _ List.perm_append_comm
theorem T.ptrs {F : List Nat} {w0 w : World} {X : List A} {t : TypeId} {g : Option Nat} {n cap : Nat} {ps : List (Option Nat)} (hT : T F w0 w X) (hm : rowP t 1 g n cap (ptrsV ps) ∈ X) : ptrsAt w (ptr g) ps ∧ ps.length = n := by
  have hs := hT.says hm
  have hl := rowP.len hs
  rw [ptrsV_len, Nat.mul_one] at hl
  refine ⟨⟨fun hne => ?_, fun a ha j x hj => ?_⟩, hl⟩
  · obtain ⟨b, rfl⟩ := rowP.pos hs (by have := List.length_pos_iff.2 hne; omega)
    exact ⟨_, rfl⟩
  · cases g with
    | none => cases ha
    | some b =>
      cases ha
      rw [addr_add, Nat.zero_add]
      exact rowP.cell hs (ptrsV_get hj)
/-- where a set lies -/
def RwX (s : RwS) (ds : List Od) (bu : List Int) (X : List A) : Prop := ∃ g1 g2 : Nat, s.pd = some ⟨g1, 0, none⟩ ∧ s.pb = some ⟨g2, 0, none⟩ ∧ rowP 40 1 (some g1) ds.length s.cd (ptrsV (blks ds)) ∈ X ∧ rowP 3 1 (some g2) bu.length s.cb (intsI bu) ∈ X
theorem RwX.at {s : RwS} {ds : List Od} {bu : List Int} {X : List A} (h : RwX s ds bu X) {F : List Nat} {w0 w : World} (hT : T F w0 w X) : ptrsAt w s.pd (blks ds) ∧ intsL w s.pb bu := by
  obtain ⟨g1, g2, h1, h2, h3, h4⟩ := h
  rw [h1, h2]
  exact ⟨(T.ptrs hT (g := some g1) h3).1, (T.ints hT (g := some g2) h4).1⟩
theorem RwX.w {s : RwS} {ds : List Od} {bu : List Int} {X : List A} (h : RwX s ds bu X) {F : List Nat} {w0 w : World} (H : Ow (dsK ds) F w0 w X) : RwW s ds bu w := ⟨⟨F, w0, X, H⟩, (h.at H.under).1, (h.at H.under).2⟩
theorem RwX.set {s : RwS} {ds ds' : List Od} {bu : List Int} {X : List A} (h : RwX s ds bu X) (hb : blks ds' = blks ds) : RwX s ds' bu X := by
  obtain ⟨g1, g2, h1, h2, h3, h4⟩ := h
  have hl : ds'.length = ds.length := by have := congrArg List.length hb; rwa [blks_len, blks_len] at this
  exact ⟨g1, g2, h1, h2, by rw [hb, hl]; exact h3, h4⟩
theorem st5 {F : List Nat} {w0 w : World} {Γ Γ' : List A} {k : Nat} {t : TypeId} {z0 z1 z2 z3 z4 v0 v1 v2 v3 v4 : Value} {K : World → Prop} (hT : T F w0 w Γ) (hu : Turn (blk k #[z0, z1, z2, z3, z4] t) (blk k #[v0, v1, v2, v3, v4] t) Γ Γ')
    (h0 : scalar v0 = true) (h1 : scalar v1 = true) (h2 : scalar v2 = true) (h3 : scalar v3 = true) (h4 : scalar v4 = true) (hK : ∀ w', T F w0 w' Γ' → K w') :
    St ⟨k, 0, none⟩ v0 w fun w1 => St ⟨k, 1, none⟩ v1 w1 fun w2 => St ⟨k, 2, none⟩ v2 w2 fun w3 => St ⟨k, 3, none⟩ v3 w3 fun w4 => St ⟨k, 4, none⟩ v4 w4 K := by
  obtain ⟨G1, a1, u1⟩ := Turn.mid hu (blk k #[v0, z1, z2, z3, z4] t)
  obtain ⟨G2, a2, u2⟩ := Turn.mid u1 (blk k #[v0, v1, z2, z3, z4] t)
  obtain ⟨G3, a3, u3⟩ := Turn.mid u2 (blk k #[v0, v1, v2, z3, z4] t)
  obtain ⟨G4, a4, u4⟩ := Turn.mid u3 (blk k #[v0, v1, v2, v3, z4] t)
  refine St.t hT a1 (by simp) rfl h0 fun w1 e1 => ?_
  refine St.t e1 a2 (by simp) rfl h1 fun w2 e2 => ?_
  refine St.t e2 a3 (by simp) rfl h2 fun w3 e3 => ?_
  refine St.t e3 a4 (by simp) rfl h3 fun w4 e4 => ?_
  exact St.t e4 u4 (by simp) rfl h4 hK
theorem Ow.st5 {h : Kd} {F : List Nat} {w0 w : World} {X X' : List A} {k : Nat} {t : TypeId} {z0 z1 z2 z3 z4 v0 v1 v2 v3 v4 : Value} {K : World → Prop} (H : Ow h F w0 w X) (hu : Turn (blk k #[z0, z1, z2, z3, z4] t) (blk k #[v0, v1, v2, v3, v4] t) X X')
    (h0 : scalar v0 = true) (h1 : scalar v1 = true) (h2 : scalar v2 = true) (h3 : scalar v3 = true) (h4 : scalar v4 = true) (hK : ∀ w', Ow h F w0 w' X' → K w') :
    St ⟨k, 0, none⟩ v0 w fun w1 => St ⟨k, 1, none⟩ v1 w1 fun w2 => St ⟨k, 2, none⟩ v2 w2 fun w3 => St ⟨k, 3, none⟩ v3 w3 fun w4 => St ⟨k, 4, none⟩ v4 w4 K := by
  obtain ⟨Y, hY, hT⟩ := H
  exact Go.Proofs.YtedbbdeeofdepaaGreat.st5 hT (hu.app Y) h0 h1 h2 h3 h4 fun w' h' => hK w' ⟨Y, hY, h'⟩
theorem push_owN {h : Kd} {F : List Nat} {w0 w : World} {X Δ : List A} {t e : TypeId} {i : TypeInfo} {z v : Value} (ht : Tryz.prog.underlying t = some (.slice e)) (hi : Tryz.prog.info? e = some i) (hz : i.zero = some z) (hsize : i.size = 1) (hzs : z.cells.size = 1) (hby : decide (i.bytes ≤ 1000000) = true)
    {g : Option Nat} {n cap : Nat} {xs : List Value} (H : Ow h F w0 w X) (hk : Pick (rowP e 1 g n cap xs) X Δ) (hv : v.oneCell' = true) (hn : n ≤ 1000000) {K : Option Addr → Nat → Nat → World → Prop} (hK : ∀ g' cap' w', Ow h F w0 w' (rowP e 1 (some g') (n + 1) cap' (xs ++ [v]) :: Δ) → K (some ⟨g', 0, none⟩) (n + 1) cap' w') :
    Alloc #[v] e w fun k w1 => ∃ (p : Option Addr) (l c : Nat), ∃ w2, (builtin .append #[t, t] t #[false, false] #[.slice (ptr g) n cap, .slice (some ⟨k, 0, none⟩) 1 1]).run Tryz.prog w1 = .ok (.value (.slice p l c)) w2 ∧ K p l c w2 := by
  obtain ⟨Y, hY, hT⟩ := H
  refine push1_t ht hi hz hsize hzs hby hT (hk.app Y) hv hn fun g' cap' w' h' => ?_
  obtain ⟨b, rfl⟩ := rowP.pos (h'.says List.mem_cons_self) (by omega)
  exact hK b cap' w' ⟨Y, hY, h'⟩
/-- a value is pushed, while something stays -/
theorem push_owD {h : Kd} {F : List Nat} {w0 w : World} {X Δ : List A} {t e : TypeId} {i : TypeInfo} {z v : Value} (ht : Tryz.prog.underlying t = some (.slice e)) (hi : Tryz.prog.info? e = some i) (hz : i.zero = some z) (hsize : i.size = 1) (hzs : z.cells.size = 1) (hby : decide (i.bytes ≤ 1000000) = true)
    {g : Option Nat} {n cap : Nat} {xs : List Value} (H : Ow h F w0 w X) (hk : Pick (rowP e 1 g n cap xs) X Δ) (hv : v.oneCell' = true) (hn : n ≤ 1000000) {D : World → Prop} {K : Option Addr → Nat → Nat → World → Prop} (hD : ∀ b w', Ow h F w0 w' (b :: X) → D w')
    (hK : ∀ g' cap' w', Ow h F w0 w' (rowP e 1 (some g') (n + 1) cap' (xs ++ [v]) :: Δ) → K (some ⟨g', 0, none⟩) (n + 1) cap' w') :
    Alloc #[v] e w fun k w1 => D w1 ∧ ∃ (p : Option Addr) (l c : Nat), ∃ w2, (builtin .append #[t, t] t #[false, false] #[.slice (ptr g) n cap, .slice (some ⟨k, 0, none⟩) 1 1]).run Tryz.prog w1 = .ok (.value (.slice p l c)) w2 ∧ K p l c w2 := by
  obtain ⟨Y, hY, hT⟩ := H
  refine Alloc.t hT fun k w1 hT1 => ⟨hD _ _ ⟨Y, hY, hT1⟩, ?_⟩
  have hby' : i.bytes ≤ 1000000 := of_decide_eq_true hby
  have hmul : (n + 1) * i.bytes ≤ 1000001 * 1000000 := Nat.mul_le_mul (by omega) hby'
  obtain ⟨g', cap', w', hr, hT'⟩ := append_t (ty := t) #[false, false] ht hi hz hsize hzs hT1 (.tail (hk.app Y)) (a := ⟨k, 0, none⟩) (m := 1) (c := 1) (news := [v]) rfl (fun j u hu => by
      rw [addr_add, Nat.zero_add]
      exact hT1.ld (by repeat (first | exact List.Mem.head _ | refine List.Mem.tail _ ?_)) (by simpa using hu)) (fun u hu => by obtain rfl := List.mem_singleton.1 hu; exact hv) (by simp only [maxLen]; omega) (by omega)
  have h3 := T.drop (hT'.swap (.swap _ _ _))
  obtain ⟨b, rfl⟩ := rowP.pos (h3.says List.mem_cons_self) (by omega)
  exact ⟨_, _, _, w', hr, hK b cap' w' ⟨Y, hY, h3⟩⟩
abbrev cells5 (w : World) (k : Nat) (v0 v1 v2 v3 v4 : Value) : Prop := w.cell? ⟨k, 0, none⟩ = some v0 ∧ w.cell? ⟨k, 1, none⟩ = some v1 ∧ w.cell? ⟨k, 2, none⟩ = some v2 ∧ w.cell? ⟨k, 3, none⟩ = some v3 ∧ w.cell? ⟨k, 4, none⟩ = some v4
/-- the parts of a pair under way -/
abbrev prX (c k r : Int) (k2 k4 k5 k6 k7 i : Nat) (g1 g2 g3 g4 : Option Nat) (c1 c2 c3 c4 : Nat) (ds rs : List Od) : List A :=
  [rowP 40 1 g1 i c1 (ptrsV (blks ds)), rowP 67 1 g2 i c2 (ptrsV (blks rs)), rowP 3 1 g3 i c3 (intsI (List.replicate i r)), rowP 3 1 g4 i c4 (intsI (List.replicate i r)),
    blk k7 #[.int .i64 c, .int .i64 k, .int .i64 r, .slice (ptr g2) i c2, .slice (ptr g4) i c4] 33, blk k6 #[.int .i64 c, .int .i64 k, .int .i64 r, .slice (ptr g1) i c1, .slice (ptr g3) i c3] 30,
    blk k5 #[.int .i64 0, .int .i64 0, .int .i64 0, .slice none 0 0, .slice none 0 0] 33, blk k4 #[.int .i64 0, .int .i64 0, .int .i64 0, .slice none 0 0, .slice none 0 0] 30, blk k2 #[.int .i64 c, .int .i64 k, .int .i64 r] 25]
/-- what a pair is -/
structure PairW (c k r : Int) (N : Nat) (s sr : RwS) (ds rs : List Od) (X : List A) : Prop where
  g : s.c = c ∧ s.k = k ∧ s.r = r
  gr : sr.c = c ∧ sr.k = k ∧ sr.r = r
  at1 : ∃ g1 g2 g3 g4 : Nat, s.pd = some ⟨g1, 0, none⟩ ∧ s.pb = some ⟨g3, 0, none⟩ ∧ sr.pd = some ⟨g2, 0, none⟩ ∧ sr.pb = some ⟨g4, 0, none⟩ ∧ X = [rowP 40 1 (some g1) c.toNat s.cd (ptrsV (blks ds)), rowP 67 1 (some g2) c.toNat sr.cd (ptrsV (blks rs)), rowP 3 1 (some g3) c.toNat s.cb (intsI (List.replicate c.toNat r)), rowP 3 1 (some g4) c.toNat sr.cb (intsI (List.replicate c.toNat r))]
  ds : ads ds = List.replicate c.toNat (some (AD.new N))
  rs : ads rs = List.replicate c.toNat (some (AD.new N))
theorem pair16_spec {c k r : Int} (hc : 1 ≤ c ∧ c ≤ 10) (hk : 1 ≤ k ∧ k ≤ 100) (hr : 1 ≤ r ∧ r ≤ 40) (fewer : Bool) (w : World) :
    Calls Tryz.prog 9 #[.agg #[.int .i64 c, .int .i64 k, .int .i64 r], .bool fewer] w fun e w' => ∃ s sr ds rs X, PairW c k r (if fewer then 3 + r * k else 4 + r * k).toNat s sr ds rs X ∧ e = .returned (.tuple #[.agg (rwC s c.toNat c.toNat), .agg (rwC sr c.toNat c.toNat)]) ∧ Ow (star (dsK ds) (rsK rs)) [] w w' X := by
  refine (revetmentlaw16_pair_calls (R := fun v w' => ∃ s sr ds rs X, PairW c k r (if fewer then 3 + r * k else 4 + r * k).toNat s sr ds rs X ∧ v = .tuple #[.agg (rwC s c.toNat c.toNat), .agg (rwC sr c.toNat c.toNat)] ∧ Ow (star (dsK ds) (rsK rs)) [] w w' X) ?_).mono fun e w' ⟨v, he, s, sr, ds, rs, X, h1, h2, h3⟩ => ⟨s, sr, ds, rs, X, h1, by rw [he, h2], h3⟩
  unfold revetmentlaw16_pair
  have hrk : 1 ≤ r * k ∧ r * k ≤ 4000 := by
    obtain ⟨h1, h2⟩ := hr
    obtain ⟨h3, h4⟩ := hk
    refine ⟨?_, ?_⟩
    · have := Int.mul_le_mul h1 h3 (by omega) (by omega); omega
    · have := Int.mul_le_mul h2 h4 (by omega) (by omega); omega
  refine Alloc.t (T.nil w) fun k2 w1 h1 => Alloc.t h1 fun k4 w2 h2 => Alloc.t h2 fun k5 w3 h3 => ?_
  refine ⟨_, _, _, ⟨h3.ld (b := k2) (by repeat (first | exact List.Mem.head _ | refine List.Mem.tail _ ?_)) rfl, h3.ld (b := k2) (by repeat (first | exact List.Mem.head _ | refine List.Mem.tail _ ?_)) rfl, h3.ld (b := k2) (by repeat (first | exact List.Mem.head _ | refine List.Mem.tail _ ?_)) rfl⟩, ?_⟩
  refine Alloc.t h3 fun k6 w4 h4 => st5 h4 .head rfl rfl rfl rfl rfl fun w5 h5 => ?_
  refine ⟨_, _, _, ⟨h5.ld (b := k2) (by repeat (first | exact List.Mem.head _ | refine List.Mem.tail _ ?_)) rfl, h5.ld (b := k2) (by repeat (first | exact List.Mem.head _ | refine List.Mem.tail _ ?_)) rfl, h5.ld (b := k2) (by repeat (first | exact List.Mem.head _ | refine List.Mem.tail _ ?_)) rfl⟩, ?_⟩
  refine Alloc.t h5 fun k7 w6 h6 => st5 h6 .head rfl rfl rfl rfl rfl fun w7 h7 => ?_
  refine ⟨_, h7.ld (b := k2) (by repeat (first | exact List.Mem.head _ | refine List.Mem.tail _ ?_)) rfl, _, h7.ld (b := k2) (by repeat (first | exact List.Mem.head _ | refine List.Mem.tail _ ?_)) rfl, ?_⟩
  rw [wrap64 (r * k) (by omega) (by omega), wrap64 (4 + r * k) (by omega) (by omega), wrap64 (4 + r * k - 1) (by omega) (by omega)]
  refine Join.intro fun J hJ => ?_
  have hgo : ∀ n : Nat, (n : Int) = (if fewer then 3 + r * k else 4 + r * k) → J [.int .i64 (n : Int)] w7 := by
    intro n hn
    have hnb : 1 ≤ n ∧ n ≤ 4096 := by split at hn <;> omega
    refine hJ _ _ ⟨_, rfl, ?_⟩
    have h8 : Ow (star (dsK []) (rsK [])) [] w w7 (prX c k r k2 k4 k5 k6 k7 0 none none none none 0 0 0 0 [] []) := by
      refine ⟨[], ⟨[], [], rfl, rfl, rfl⟩, ?_⟩
      exact T.nilRow (T.nilRow (T.nilRow (T.nilRow h7 3 1) 3 1) 67 1) 40 1
    refine ⟨fun vs w' => ∃ (i : Nat) (g1 g2 g3 g4 : Option Nat) (c1 c2 c3 c4 : Nat) (ds rs : List Od), vs = [.int .i64 (i : Int)] ∧ (i : Int) ≤ c ∧ ads ds = List.replicate i (some (AD.new n)) ∧ ads rs = List.replicate i (some (AD.new n)) ∧ Ow (star (dsK ds) (rsK rs)) [] w w' (prX c k r k2 k4 k5 k6 k7 i g1 g2 g3 g4 c1 c2 c3 c4 ds rs), fun vs _ => match vs with | [.int _ i] => (c - i).toNat | _ => 0, ⟨0, none, none, none, none, 0, 0, 0, 0, [], [], rfl, by omega, rfl, rfl, h8⟩, ?_⟩
    rintro vs w8 ⟨i, g1, g2, g3, g4, c1, c2, c3, c4, ds, rs, rfl, hi, hds, hrs, H⟩
    have hsnoc : ∀ (l : List Od) (q : Nat), ads l = List.replicate i (some (AD.new n)) → ads (l ++ [some (q, AD.new n)]) = List.replicate (i + 1) (some (AD.new n)) := fun l q hl => by
      rw [ads_snoc, hl, List.replicate_succ']; rfl
    have hrep : intsI (List.replicate i r) ++ [.int .i64 r] = intsI (List.replicate (i + 1) r) := by rw [intsI_snoc, List.replicate_succ']
    refine ⟨_, rfl, _, H.ld (b := k2) (by repeat (first | exact List.Mem.head _ | refine List.Mem.tail _ ?_)) rfl, dec_t fun hlt => ?_, dec_f fun hge => ?_⟩
    · refine ⟨fun w' => w'.cell? ⟨k6, 3, none⟩ = some (.slice (ptr g1) i c1), H.drew.ld (b := k6) (by repeat (first | exact List.Mem.head _ | refine List.Mem.tail _ ?_)) rfl, _, _, _, fun _ h => h, ?_⟩
      refine Ow.newD H.drew hnb fun q w9 H9 => ⟨_, rfl, (Ow.ld H9 (b := k6) (by repeat (first | exact List.Mem.head _ | refine List.Mem.tail _ ?_)) rfl), ?_⟩
      have H9 := Ow.addD H9
      refine push_owD (i := Tryz.t40) (z := .pointer none) (v := .pointer (some ⟨q, 0, none⟩)) (g := g1) (by kernel_rfl) (by kernel_rfl) (by kernel_rfl) (by kernel_rfl) (by kernel_rfl) (by kernel_rfl) H9 .head rfl (by omega) (fun b w' h' => Ow.ld h' (b := k6) (by repeat (first | exact List.Mem.head _ | refine List.Mem.tail _ ?_)) rfl) fun g1' c1' w10 H10 => ?_
      have eb1 : ptrsV (blks ds) ++ [.pointer (some ⟨q, 0, none⟩)] = ptrsV (blks (ds ++ [some (q, AD.new n)])) := (blks_snoc ds (some (q, AD.new n))).symm
      rw [eb1] at H10
      refine ⟨Ow.ld H10 (b := k6) (by repeat (first | exact List.Mem.head _ | refine List.Mem.tail _ ?_)) rfl, ?_⟩
      refine H10.st (c' := #[.int .i64 c, .int .i64 k, .int .i64 r, .slice (ptr (some g1')) (i + 1) c1', .slice (ptr g3) i c3]) (by repeat (first | exact Turn.head | apply Turn.tail)) (by simp) rfl rfl fun w11 H11 => ?_
      refine ⟨fun w' => w'.cell? ⟨k7, 3, none⟩ = some (.slice (ptr g2) i c2), H11.drew.ld (b := k7) (by repeat (first | exact List.Mem.head _ | refine List.Mem.tail _ ?_)) rfl, _, _, _, fun _ h => h, ?_⟩
      refine Ow.newR H11.drew hnb fun q2 w12 H12 => ⟨_, rfl, (Ow.ld H12 (b := k7) (by repeat (first | exact List.Mem.head _ | refine List.Mem.tail _ ?_)) rfl), ?_⟩
      have H12 := Ow.addR H12
      refine push_owD (i := Tryz.t67) (z := .pointer none) (v := .pointer (some ⟨q2, 0, none⟩)) (g := g2) (by kernel_rfl) (by kernel_rfl) (by kernel_rfl) (by kernel_rfl) (by kernel_rfl) (by kernel_rfl) H12 (.tail .head) rfl (by omega) (fun b w' h' => Ow.ld h' (b := k7) (by repeat (first | exact List.Mem.head _ | refine List.Mem.tail _ ?_)) rfl) fun g2' c2' w13 H13 => ?_
      have eb2 : ptrsV (blks rs) ++ [.pointer (some ⟨q2, 0, none⟩)] = ptrsV (blks (rs ++ [some (q2, AD.new n)])) := (blks_snoc rs (some (q2, AD.new n))).symm
      rw [eb2] at H13
      refine ⟨Ow.ld H13 (b := k7) (by repeat (first | exact List.Mem.head _ | refine List.Mem.tail _ ?_)) rfl, ?_⟩
      refine H13.st (c' := #[.int .i64 c, .int .i64 k, .int .i64 r, .slice (ptr (some g2')) (i + 1) c2', .slice (ptr g4) i c4]) (by repeat (first | exact Turn.head | apply Turn.tail)) (by simp) rfl rfl fun w14 H14 => ?_
      refine ⟨_, _, _, H14.ld (b := k6) (by repeat (first | exact List.Mem.head _ | refine List.Mem.tail _ ?_)) rfl, _, H14.ld (b := k2) (by repeat (first | exact List.Mem.head _ | refine List.Mem.tail _ ?_)) rfl, ?_⟩
      refine push_owN (i := Tryz.t3) (z := .int .i64 0) (v := .int .i64 r) (g := g3) (by kernel_rfl) (by kernel_rfl) (by kernel_rfl) (by kernel_rfl) (by kernel_rfl) (by kernel_rfl) H14 (.tail (.tail .head)) rfl (by omega) fun g3' c3' w15 H15 => ?_
      rw [hrep] at H15
      refine H15.st (c' := #[.int .i64 c, .int .i64 k, .int .i64 r, .slice (ptr (some g1')) (i + 1) c1', .slice (ptr (some g3')) (i + 1) c3']) (by repeat (first | exact Turn.head | apply Turn.tail)) (by simp) rfl rfl fun w16 H16 => ?_
      refine ⟨_, _, _, H16.ld (b := k7) (by repeat (first | exact List.Mem.head _ | refine List.Mem.tail _ ?_)) rfl, _, H16.ld (b := k2) (by repeat (first | exact List.Mem.head _ | refine List.Mem.tail _ ?_)) rfl, ?_⟩
      refine push_owN (i := Tryz.t3) (z := .int .i64 0) (v := .int .i64 r) (g := g4) (by kernel_rfl) (by kernel_rfl) (by kernel_rfl) (by kernel_rfl) (by kernel_rfl) (by kernel_rfl) H16 (.tail (.tail (.tail .head))) rfl (by omega) fun g4' c4' w17 H17 => ?_
      rw [hrep] at H17
      refine H17.st (c' := #[.int .i64 c, .int .i64 k, .int .i64 r, .slice (ptr (some g2')) (i + 1) c2', .slice (ptr (some g4')) (i + 1) c4']) (by repeat (first | exact Turn.head | apply Turn.tail)) (by simp) rfl rfl fun w18 H18 => ?_
      refine ⟨⟨i + 1, some g1', some g2', some g3', some g4', c1', c2', c3', c4', ds ++ [some (q, AD.new n)], rs ++ [some (q2, AD.new n)], by rw [wrap64 _ (by omega) (by omega)]; rfl, by omega, hsnoc ds q hds, hsnoc rs q2 hrs, ?_⟩, ?_⟩
      · refine H18.perm ?_
        exact (Pick.perm (a := rowP 40 1 (some g1') (i + 1) c1' (ptrsV (blks (ds ++ [some (q, AD.new n)])))) (.tail (.tail (.tail .head)))).trans (List.Perm.cons _ ((Pick.perm (a := rowP 67 1 (some g2') (i + 1) c2' (ptrsV (blks (rs ++ [some (q2, AD.new n)])))) (.tail (.tail .head))).trans (List.Perm.cons _ (.swap _ _ _))))
      · show (c - IntKind.i64.wrap ((i : Int) + 1)).toNat < (c - (i : Int)).toNat
        rw [wrap64 _ (by omega) (by omega)]; omega
    · obtain ⟨m, hm⟩ : ∃ m : Nat, c = (m : Int) := ⟨c.toNat, by omega⟩
      obtain rfl : i = m := by omega
      obtain ⟨b1, rfl⟩ := rowP.pos (H.under.says (x := rowP 40 1 g1 i c1 (ptrsV (blks ds))) (by repeat (first | exact List.Mem.head _ | refine List.Mem.tail _ ?_))) (by omega)
      obtain ⟨b2, rfl⟩ := rowP.pos (H.under.says (x := rowP 67 1 g2 i c2 (ptrsV (blks rs))) (by repeat (first | exact List.Mem.head _ | refine List.Mem.tail _ ?_))) (by omega)
      obtain ⟨b3, rfl⟩ := rowP.pos (H.under.says (x := rowP 3 1 g3 i c3 (intsI (List.replicate i r))) (by repeat (first | exact List.Mem.head _ | refine List.Mem.tail _ ?_))) (by omega)
      obtain ⟨b4, rfl⟩ := rowP.pos (H.under.says (x := rowP 3 1 g4 i c4 (intsI (List.replicate i r))) (by repeat (first | exact List.Mem.head _ | refine List.Mem.tail _ ?_))) (by omega)
      have H2 := H.drew
      have sd : ∀ {h : Kd} {w' : World} {X : List A}, Ow h [] w w' X → blk k6 #[.int .i64 c, .int .i64 k, .int .i64 r, .slice (ptr (some b1)) i c1, .slice (ptr (some b3)) i c3] 30 ∈ X → blk k7 #[.int .i64 c, .int .i64 k, .int .i64 r, .slice (ptr (some b2)) i c2, .slice (ptr (some b4)) i c4] 33 ∈ X →
          cells5 w' k6 (.int .i64 c) (.int .i64 k) (.int .i64 r) (.slice (ptr (some b1)) i c1) (.slice (ptr (some b3)) i c3) ∧ cells5 w' k7 (.int .i64 c) (.int .i64 k) (.int .i64 r) (.slice (ptr (some b2)) i c2) (.slice (ptr (some b4)) i c4) := fun h' m1 m2 =>
        ⟨⟨h'.ld m1 rfl, h'.ld m1 rfl, h'.ld m1 rfl, h'.ld m1 rfl, h'.ld m1 rfl⟩, h'.ld m2 rfl, h'.ld m2 rfl, h'.ld m2 rfl, h'.ld m2 rfl, h'.ld m2 rfl⟩
      refine ⟨fun w' => cells5 w' k6 (.int .i64 c) (.int .i64 k) (.int .i64 r) (.slice (ptr (some b1)) i c1) (.slice (ptr (some b3)) i c3) ∧ cells5 w' k7 (.int .i64 c) (.int .i64 k) (.int .i64 r) (.slice (ptr (some b2)) i c2) (.slice (ptr (some b4)) i c4), sd H2 (by repeat (first | exact List.Mem.head _ | refine List.Mem.tail _ ?_)) (by repeat (first | exact List.Mem.head _ | refine List.Mem.tail _ ?_)), _, _, _, _, _, _, _, _, _, fun _ h => h.1, _, _, _, _, _, _, _, _, _, fun _ h => h.2, ?_⟩
      refine Ow.st5 H2 (X' := _) (v3 := .slice (ptr (some b1)) i c1) (v4 := .slice (ptr (some b3)) i c3) (by repeat (first | exact Turn.head | apply Turn.tail)) rfl rfl rfl rfl rfl fun w9 H9 => ⟨sd H9 (by repeat (first | exact List.Mem.head _ | refine List.Mem.tail _ ?_)) (by repeat (first | exact List.Mem.head _ | refine List.Mem.tail _ ?_)), ?_⟩
      refine Ow.st5 H9 (X' := _) (v3 := .slice (ptr (some b2)) i c2) (v4 := .slice (ptr (some b4)) i c4) (by repeat (first | exact Turn.head | apply Turn.tail)) rfl rfl rfl rfl rfl fun w10 H10 => ?_
      refine ⟨_, _, _, _, _, _, _, _, _, ⟨H10.ld (b := k4) (by repeat (first | exact List.Mem.head _ | refine List.Mem.tail _ ?_)) rfl, H10.ld (b := k4) (by repeat (first | exact List.Mem.head _ | refine List.Mem.tail _ ?_)) rfl, H10.ld (b := k4) (by repeat (first | exact List.Mem.head _ | refine List.Mem.tail _ ?_)) rfl, H10.ld (b := k4) (by repeat (first | exact List.Mem.head _ | refine List.Mem.tail _ ?_)) rfl, H10.ld (b := k4) (by repeat (first | exact List.Mem.head _ | refine List.Mem.tail _ ?_)) rfl⟩, ?_⟩
      refine ⟨_, _, _, _, _, _, _, _, _, ⟨H10.ld (b := k5) (by repeat (first | exact List.Mem.head _ | refine List.Mem.tail _ ?_)) rfl, H10.ld (b := k5) (by repeat (first | exact List.Mem.head _ | refine List.Mem.tail _ ?_)) rfl, H10.ld (b := k5) (by repeat (first | exact List.Mem.head _ | refine List.Mem.tail _ ?_)) rfl, H10.ld (b := k5) (by repeat (first | exact List.Mem.head _ | refine List.Mem.tail _ ?_)) rfl, H10.ld (b := k5) (by repeat (first | exact List.Mem.head _ | refine List.Mem.tail _ ?_)) rfl⟩, ?_⟩
      refine ⟨⟨c, k, r, some ⟨b1, 0, none⟩, c1, some ⟨b3, 0, none⟩, c3⟩, ⟨c, k, r, some ⟨b2, 0, none⟩, c2, some ⟨b4, 0, none⟩, c4⟩, ds, rs, _, ⟨⟨rfl, rfl, rfl⟩, ⟨rfl, rfl, rfl⟩, ⟨b1, b2, b3, b4, rfl, rfl, rfl, rfl, rfl⟩, ?_, ?_⟩, ?_, ?_⟩
      · rw [hds, hm, Int.toNat_natCast, ← hn, Int.toNat_natCast]
      · rw [hrs, hm, Int.toNat_natCast, ← hn, Int.toNat_natCast]
      · rw [hm, Int.toNat_natCast]; rfl
      · have e1 : c.toNat = i := by omega
        rw [e1]
        exact Ow.leave (X := [_, _, _, _]) H10
  cases fewer with
  | true => exact yes rfl (by have := hgo (3 + r * k).toNat (by rw [Int.toNat_of_nonneg (by omega)]; rfl); rw [Int.toNat_of_nonneg (by omega)] at this; rw [show 4 + r * k - 1 = 3 + r * k by omega]; exact this)
  | false => exact no rfl (by have := hgo (4 + r * k).toNat (by rw [Int.toNat_of_nonneg (by omega)]; rfl); rw [Int.toNat_of_nonneg (by omega)] at this; exact this)
end Go.Proofs.YtedbbdeeofdepaaGreat
end
section
/-! layout: the reference answers alike. -/
namespace Go.Proofs.YtedbbdeeofdepaaGreat
open Go.Sh
set_option linter.unusedVariables false
theorem mod2 (x c : Int) (h0 : 0 ≤ x) (h1 : x < 2 * c) : x % c = if x < c then x else x - c := by
  split
  · exact Int.emod_eq_of_lt h0 (by assumption)
  · have : x % c = (x - c) % c := by rw [Int.sub_emod_right]
    rw [this]; exact Int.emod_eq_of_lt (by omega) (by omega)
theorem firstG_eq (c row : Int) (hc : 4 ≤ c) : firstG c row = if row % c = 0 then 0 else c - row % c := by
  have h1 := mod_bd row (c := c) (by omega)
  unfold firstG
  have : (2 * c - row % c) % c = (c - row % c) % c := by
    rw [show 2 * c - row % c = (c - row % c) + c by omega, Int.add_emod_right]
  rw [this, mod2 _ _ (by omega) (by omega)]
  split <;> split <;> omega
theorem inG_of {c k r row n most : Int} (h : OkG c k r) (h1 : 0 ≤ row ∧ row < r) (h2 : 0 ≤ n ∧ n < most) : InG c k r row n most := ⟨h, h1.1, h1.2, h2.1, h2.2⟩
theorem par_q {c k r row : Int} (h : InG c k r row 0 1) : parQ c k r row = firstG c row := by simp only [parQ, if_pos h]
theorem par_p {c k r row : Int} (h : InG c k r row 0 1) : parP c k r row = if firstG c row = 0 then c - 1 else firstG c row - 1 := by
  have hc : 4 ≤ c ∧ c ≤ 10 := by grind [InG, OkG]
  have h1 := firstG_bd c row hc
  simp only [parP, if_pos h]
  rw [mod2 _ _ (by omega) (by omega)]; split <;> split <;> omega
theorem col_v {c k r row i : Int} (h : InG c k r row i (c - 2)) : colG c k r row i = if firstG c row + 1 + i < c then firstG c row + 1 + i else firstG c row + 1 + i - c := by
  have hc : 4 ≤ c ∧ c ≤ 10 ∧ 0 ≤ i ∧ i < c - 2 := by grind [InG, OkG]
  have h1 := firstG_bd c row ⟨hc.1, hc.2.1⟩
  simp only [colG, if_pos h]
  exact mod2 _ _ (by omega) (by omega)
theorem role_v {c k r row col : Int} (h : InG c k r row col c) : roleG c k r row col = if col = firstG c row then c - 1 else if col < firstG c row then col - firstG c row + c - 1 else col - firstG c row - 1 := by
  have hc : 4 ≤ c ∧ c ≤ 10 ∧ 0 ≤ col ∧ col < c := by grind [InG, OkG]
  have h1 := firstG_bd c row ⟨hc.1, hc.2.1⟩
  simp only [roleG, if_pos h]
  rw [mod2 _ _ (by omega) (by omega)]
  split <;> split <;> (try split) <;> (try split) <;> omega
end Go.Proofs.YtedbbdeeofdepaaGreat
end
section
/-! row: what stands where; sets whose drives are all there. -/
namespace Go.Proofs.YtedbbdeeofdepaaGreat
open Go.Sh Go.RowKit
set_option linter.unusedVariables false
set_option linter.unusedSimpArgs false
set_option maxRecDepth 20000
set_option maxHeartbeats 1000000
theorem colR_v {s : RwS} (hG : OkG s.c s.k s.r) {row role : Int} (hr : 0 ≤ row ∧ row < s.r) (h0 : 0 ≤ role ∧ role < s.c) : colR s row role = if firstG s.c row + 1 + role < s.c then firstG s.c row + 1 + role else firstG s.c row + 1 + role - s.c := by
  have hc := hG.1
  have hf : 0 ≤ firstG s.c row ∧ firstG s.c row < s.c := ⟨Int.emod_nonneg _ (by omega), Int.emod_lt_of_pos _ (by omega)⟩
  have hin : InG s.c s.k s.r row 0 1 := inG_of hG hr (by omega)
  unfold colR
  split
  · rw [col_v (inG_of hG hr (by omega))]
  · split
    · rw [par_p hin]
      have : role = s.c - 2 := by omega
      split <;> split <;> omega
    · rw [par_q hin, if_neg (by omega)]; omega
theorem colR_nat {s : RwS} (hG : OkG s.c s.k s.r) {row role : Int} (hr : 0 ≤ row ∧ row < s.r) (h0 : 0 ≤ role ∧ role < s.c) : ((colR s row role).toNat : Int) = colR s row role ∧ ((colR s row role).toNat : Int) < s.c := by
  obtain ⟨h1, h2⟩ := colR_in hG hr h0
  omega
theorem sectorG_v {c k r row off : Int} (hG : OkG c k r) (hr : 0 ≤ row ∧ row < r) (ho : 0 ≤ off ∧ off < k) : sectorG c k r row off = 4 + k * row + off := by
  simp only [sectorG, if_pos (inG_of hG hr ho)]
theorem sectorG_in {c k r row off : Int} (hG : OkG c k r) (hr : 0 ≤ row ∧ row < r) (ho : 0 ≤ off ∧ off < k) : 4 ≤ sectorG c k r row off ∧ sectorG c k r row off < 4 + r * k := by
  rw [sectorG_v hG hr ho]
  have h1 : 0 ≤ k * row := Int.mul_nonneg (by omega) hr.1
  have h2 : k * (row + 1) ≤ k * r := Int.mul_le_mul_of_nonneg_left (by omega) (by omega)
  rw [Int.mul_add] at h2
  rw [Int.mul_comm r k]
  omega
/-- all drives of a set are there, and built -/
structure SetOn (s : RwS) (ds : List Od) (bu : List Int) (N : Nat) : Prop where
  ok : OkG s.c s.k s.r
  len : (ds.length : Int) = s.c
  bu : bu = List.replicate s.c.toNat s.r
  size : (N : Int) = 4 + s.r * s.k
  on : ∀ i, i < ds.length → ∃ p a, ds[i]? = some (some (p, a)) ∧ a.On N
section
variable {s : RwS} {ds : List Od} {bu : List Int} {N : Nat}
theorem SetOn.may (h : SetOn s ds bu N) : RMay s ds bu := by
  refine ⟨h.ok, h.len, by rw [h.bu, List.length_replicate]; have := h.ok.1; omega, fun y hy x hx => ?_⟩
  obtain ⟨i, hi, rfl⟩ := List.getElem_of_mem hy
  obtain ⟨p, a, hk, ha⟩ := h.on i hi
  rw [List.getElem?_eq_getElem hi, hx] at hk
  cases hk
  have := ha.len
  unfold needG
  rw [if_pos h.ok, this, h.size]
  exact Int.le_refl _
theorem SetOn.at (h : SetOn s ds bu N) (row off : Int) : atE s ds bu row off = if row < 0 ∨ row ≥ s.r ∨ off < 0 ∨ off ≥ s.k then 70 else 0 := by
  unfold atE
  rw [if_pos h.may]
theorem SetOn.at0 (h : SetOn s ds bu N) {row off : Int} (hr : 0 ≤ row ∧ row < s.r) (ho : 0 ≤ off ∧ off < s.k) : atE s ds bu row off = 0 := by
  rw [h.at, if_neg (by omega)]
theorem SetOn.there (h : SetOn s ds bu N) {i : Nat} (hi : (i : Int) < s.c) : ∃ p a, ds[i]? = some (some (p, a)) ∧ a.On N ∧ thereO ds i = some (p, a) := by
  obtain ⟨p, a, hk, ha⟩ := h.on i (by have := h.len; omega)
  refine ⟨p, a, hk, ha, ?_⟩
  unfold thereO
  rw [List.getD_eq_getElem?_getD, hk]
  show (if a.dead = true then none else some (p, a)) = _
  rw [if_neg (by rw [ha.dead]; decide)]
theorem SetOn.buGet (h : SetOn s ds bu N) {i : Nat} (hi : (i : Int) < s.c) : bu.getD i 0 = s.r := by
  rw [h.bu, List.getD_eq_getElem?_getD, List.getElem?_replicate, if_pos (by omega)]; rfl
/-- what is read of a role -/
theorem SetOn.sec (h : SetOn s ds bu N) {row off role : Int} (hr : 0 ≤ row ∧ row < s.r) (h0 : 0 ≤ role ∧ role < s.c) : ∃ p a, ds[(colR s row role).toNat]? = some (some (p, a)) ∧ a.On N ∧ secR s ds bu row off role = a.read (sectorG s.c s.k s.r row off) := by
  obtain ⟨e1, e2⟩ := colR_nat h.ok hr h0
  obtain ⟨p, a, hk, ha, ht⟩ := h.there e2
  refine ⟨p, a, hk, ha, ?_⟩
  unfold secR builtO
  rw [h.buGet e2, if_neg (by omega), ht]
/-- a sector is written -/
theorem SetOn.write (h : SetOn s ds bu N) {row off role : Int} (hr : 0 ≤ row ∧ row < s.r) (ho : 0 ≤ off ∧ off < s.k) (h0 : 0 ≤ role ∧ role < s.c) {x : ByteArray} (hx : x.size = 64) :
    ∃ p a, ds[(colR s row role).toNat]? = some (some (p, a)) ∧ a.On N ∧ a.put (sectorG s.c s.k s.r row off) x = 0 ∧ writeE s ds bu row off role x = 0 ∧ writeD s ds bu row off role x = ds.set (colR s row role).toNat (some (p, a.write (sectorG s.c s.k s.r row off) x)) := by
  obtain ⟨e1, e2⟩ := colR_nat h.ok hr h0
  obtain ⟨p, a, hk, ha, ht⟩ := h.there e2
  have hs := sectorG_in h.ok hr ho
  have hp : a.put (sectorG s.c s.k s.r row off) x = 0 := ha.put (by have := h.size; omega) hx
  have hz : ¬ (atE s ds bu row off ≠ 0) := by rw [h.at0 hr ho]; simp
  have hn : ¬ (role < 0 ∨ role ≥ s.c) := by omega
  refine ⟨p, a, hk, ha, hp, ?_, ?_⟩
  · unfold writeE
    rw [if_neg hz, if_neg hn, ht]
    exact hp
  · unfold writeD
    rw [if_neg hz, if_neg hn, ht]
theorem SetOn.set (h : SetOn s ds bu N) {i p : Nat} {a : AD} (ha : a.On N) : SetOn s (ds.set i (some (p, a))) bu N := by
  refine ⟨h.ok, by rw [List.length_set]; exact h.len, h.bu, h.size, fun j hj => ?_⟩
  rw [List.length_set] at hj
  rw [List.getElem?_set]
  by_cases e : i = j
  · subst e
    rw [if_pos rfl, if_pos hj]
    exact ⟨p, a, rfl, ha⟩
  · rw [if_neg e]
    exact h.on j hj
/-- the drives of a set hold what f says -/
def SetHold (ds : List Od) (N : Nat) (f : Nat → Nat → ByteArray) : Prop := ∀ i, i < ds.length → ∃ p a, ds[i]? = some (some (p, a)) ∧ a.Hold N (f i)
theorem SetHold.few {f : Nat → Nat → ByteArray} (h : SetHold ds N f) (M : Nat) : FewL ds M := fun q a hm => by
  obtain ⟨i, hi, he⟩ := List.getElem_of_mem hm
  obtain ⟨p, b, hk, hb⟩ := h i hi
  rw [List.getElem?_eq_getElem hi, he] at hk
  cases hk
  exact hb.few M
theorem SetHold.on {f : Nat → Nat → ByteArray} (h : SetHold ds N f) (h1 : OkG s.c s.k s.r) (h2 : (ds.length : Int) = s.c) (h3 : bu = List.replicate s.c.toNat s.r) (h4 : (N : Int) = 4 + s.r * s.k) : SetOn s ds bu N :=
  ⟨h1, h2, h3, h4, fun i hi => by obtain ⟨p, a, hk, ha⟩ := h i hi; exact ⟨p, a, hk, ha.on⟩⟩
theorem SetHold.new {m : Nat} (h : ads ds = List.replicate m (some (AD.new N))) : SetHold ds N fun _ _ => zeroSec := fun i hi => by
  have hl : ds.length = m := by have := congrArg List.length h; simpa [ads] using this
  have h1 : (ads ds)[i]? = some (some (AD.new N)) := by rw [h, List.getElem?_replicate, if_pos (by omega)]
  unfold ads at h1
  rw [List.getElem?_map, List.getElem?_eq_getElem hi] at h1
  cases hx : ds[i] with
  | none => rw [hx] at h1; cases h1
  | some y =>
    rw [hx] at h1
    have : y.2 = AD.new N := by simpa [adO] using h1
    exact ⟨y.1, y.2, by rw [List.getElem?_eq_getElem hi, hx], by rw [this]; exact hold_new N⟩
end
/-- a pair made for a law -/
theorem PairW.on {c k r : Int} {N : Nat} {s sr : RwS} {ds rs : List Od} {X : List A} (h : PairW c k r N s sr ds rs X) (hG : OkG c k r) (hN : (N : Int) = 4 + r * k) : SetOn s ds (List.replicate c.toNat r) N ∧ SetHold ds N (fun _ _ => zeroSec) ∧ RwX s ds (List.replicate c.toNat r) X ∧ ds.length = c.toNat := by
  have h1 := SetHold.new h.ds
  have hl : ds.length = c.toNat := by have := congrArg List.length h.ds; simpa [ads] using this
  obtain ⟨g1, g2, g3⟩ := h.g
  obtain ⟨a1, a2, a3, a4, e1, e2, e3, e4, rfl⟩ := h.at1
  refine ⟨h1.on (by rw [g1, g2, g3]; exact hG) (by rw [hl, g1]; have := hG.1; omega) (by rw [g1, g3]) (by rw [g2, g3]; exact hN), h1, ⟨a1, a3, e1, e2, by rw [hl]; exact List.mem_cons_self, ?_⟩, hl⟩
  rw [List.length_replicate]
  exact List.mem_cons_of_mem _ (List.mem_cons_of_mem _ List.mem_cons_self)
theorem geo16_spec {a b d : Int} (ha : 0 ≤ a ∧ a ≤ 255) (hb : 0 ≤ b ∧ b ≤ 255) (hd : 0 ≤ d ∧ d ≤ 255) (w : World) :
    Ret Tryz.prog 8 #[.int .u8 a, .int .u8 b, .int .u8 d] w (.agg #[.int .i64 (4 + a % 4), .int .i64 (1 + b % 3), .int .i64 (1 + d % 6)]) := by
  refine ret_of (revetmentlaw16_geometry_calls ?_)
  unfold revetmentlaw16_geometry
  have e : ∀ {x : Int} {n : Int}, 0 ≤ x ∧ x ≤ 255 → Int.tmod (IntKind.i64.wrap x) n = x % n := fun {x n} hx => by
    rw [wrap64 x (by omega) (by omega), Int.tmod_eq_emod_of_nonneg hx.1]
  rw [e ha, e hb, e hd, wrap64 (4 + a % 4) (by omega) (by omega), wrap64 (1 + b % 3) (by omega) (by omega), wrap64 (1 + d % 6) (by omega) (by omega)]
  refine Alloc.t (T.nil w) fun k1 w1 h1 => St.t h1 .head (by simp) rfl rfl fun w2 h2 => St.t h2 .head (by simp) rfl rfl fun w3 h3 => St.t h3 .head (by simp) rfl rfl fun w4 h4 => ?_
  exact ⟨_, _, _, ⟨h4.ld (b := k1) (by repeat (first | exact List.Mem.head _ | refine List.Mem.tail _ ?_)) rfl, h4.ld (b := k1) (by repeat (first | exact List.Mem.head _ | refine List.Mem.tail _ ?_)) rfl, h4.ld (b := k1) (by repeat (first | exact List.Mem.head _ | refine List.Mem.tail _ ?_)) rfl⟩, rfl, h4.chg.ext⟩
theorem full16_spec (s : ByteArray) (hs : s.size ≤ 9000000000000000000) (w : World) : Ret Tryz.prog 10 #[.string s] w (.string (fullB s)) := by
  refine ret_of (revetmentlaw16_full_calls ?_)
  unfold revetmentlaw16_full
  refine (blank_spec w).mono fun e w1 ⟨he, hx⟩ => ⟨_, he, by rw [zeroSec_size]; omega, _, _, slice_to (by kernel_rfl) (by omega) (by rw [ByteArray.size_append, zeroSec_size]; omega), rfl, hx⟩
theorem write_read {a : AD} {N : Nat} (h : a.On N) {i : Int} (hi : 0 ≤ i ∧ i < (N : Int)) {x : ByteArray} (hx : x.size = 64) : (a.write i x).read i = (x, 0) := by
  have hp := h.put hi hx
  rw [read_on (h.write i x) hi, if_neg, AD.write_top hp, if_pos rfl]
  rw [AD.write_of hp]
  simp
theorem shown16_spec (w : World) : Ret Tryz.prog 7 #[] w (.bool true) := by
  refine ret_of (revetmentlaw16_shown_calls ?_)
  unfold revetmentlaw16_shown
  refine (geo16_spec (a := 0) (b := 0) (d := 0) (by omega) (by omega) (by omega) w).mono fun e w1 ⟨he1, hx1⟩ => ⟨_, _, _, he1, ?_⟩
  refine (pair16_spec (c := 4) (k := 1) (r := 1) (by omega) (by omega) (by omega) false w1).mono fun e w2 ⟨s, sr, ds, rs, X, hP, he2, H2⟩ => ⟨_, _, _, _, _, _, _, _, _, _, _, _, _, _, _, _, _, _, he2, ?_⟩
  obtain ⟨hS, hH, hRX, hl⟩ := hP.on (by unfold OkG; omega) (by decide)
  obtain ⟨gc, gk, gr⟩ := hP.g
  rw [show Int.toNat 4 = 4 from rfl] at hS hRX hl
  have H2 : Ow (dsK ds) [] w w2 (X ++ []) := Ow.over H2.fst (T.quiet (T.nil w) hx1)
  rw [List.append_nil] at H2
  refine H2.alloc fun k1 w3 H3 => H3.alloc fun k2 w4 H4 => ?_
  refine Ow.st5 H4 (v3 := .slice s.pd 4 s.cd) (v4 := .slice s.pb 4 s.cb) (by repeat (first | exact Turn.head | apply Turn.tail)) rfl rfl rfl rfl rfl fun w5 H5 => ?_
  refine Ow.st5 H5 (v3 := .slice sr.pd 4 sr.cd) (v4 := .slice sr.pb 4 sr.cb) (by repeat (first | exact Turn.head | apply Turn.tail)) rfl rfl rfl rfl rfl fun w6 H6 => ?_
  have c1 : ∀ {h : Kd} {w' : World} {Y : List A}, Ow h [] w w' Y → blk k1 (rwC s 4 4) 30 ∈ Y → ∀ i v, (rwC s 4 4)[i]? = some v → w'.cell? ⟨k1, i, none⟩ = some v := fun h' hm i v hv => h'.ld hm hv
  have H6 : Ow (dsK ds) [] w w6 (blk k2 (rwC sr 4 4) 33 :: blk k1 (rwC s 4 4) 30 :: X) := H6
  have hRX : RwX s ds (List.replicate 4 1) (blk k2 (rwC sr 4 4) 33 :: blk k1 (rwC s 4 4) 30 :: X) := by
    obtain ⟨g1, g2, h1, h2, h3, h4⟩ := hRX
    exact ⟨g1, g2, h1, h2, List.mem_cons_of_mem _ (List.mem_cons_of_mem _ h3), List.mem_cons_of_mem _ (List.mem_cons_of_mem _ h4)⟩
  generalize hY : blk k2 (rwC sr 4 4) 33 :: blk k1 (rwC s 4 4) 30 :: X = Y at H6 hRX
  have m1 : blk k1 (rwC s 4 4) 30 ∈ Y := by rw [← hY]; exact (by repeat (first | exact List.Mem.head _ | refine List.Mem.tail _ ?_))
  have hl4 : ds.length = 4 := hl
  have hb4 : (List.replicate 4 (1 : Int)).length = 4 := rfl
  obtain ⟨p0, a0, hk0, _⟩ := hS.on 0 (by omega)
  have hcell : ∀ {h : Kd} {w' : World}, Ow h [] w w' Y → ∃ a, s.pd = some a ∧ w'.cell? a = some (.pointer (some ⟨p0, 0, none⟩)) := fun h' => by
    obtain ⟨a, ha, hc⟩ := (hRX.at h'.under).1.get (blks_get hk0)
    have e0 : a.add (0 * 1) = a := by cases a; simp [Addr.add]
    exact ⟨a, ha, by rw [e0] at hc; exact hc⟩
  obtain ⟨a0', ha0, _⟩ := hcell H6
  refine ⟨fun w' => ∃ h, Ow h [] w w' Y, ⟨_, H6.drew⟩, _, _, _, fun w' ⟨h, h'⟩ => c1 h' m1 3 _ rfl, a0', ha0, by omega, by omega, some ⟨p0, 0, none⟩, fun w' ⟨h, h'⟩ => ?_, no rfl ?_⟩
  · obtain ⟨a, ha, hc⟩ := hcell h'
    rw [ha0] at ha; cases ha; exact hc
  refine ⟨_, _, _, _, _, _, _, _, _, fun w' ⟨h, h'⟩ => ⟨c1 h' m1 0 _ rfl, c1 h' m1 1 _ rfl, c1 h' m1 2 _ rfl, c1 h' m1 3 _ rfl, c1 h' m1 4 _ rfl⟩, ?_⟩
  refine (full16_spec _ (by decide) _).mono fun e w7 ⟨he7, hx7⟩ => ⟨_, he7, ⟨_, H6.drew.quiet hx7⟩, ?_⟩
  have H7 := H6.drew.quiet hx7
  have hF : FewL ds 1000000 := hH.few _
  have hr : 0 ≤ (0 : Int) ∧ (0 : Int) < s.r := by rw [gr]; omega
  have ho : 0 ≤ (0 : Int) ∧ (0 : Int) < s.k := by rw [gk]; omega
  have h0 : 0 ≤ (1 : Int) ∧ (1 : Int) < s.c := by rw [gc]; omega
  obtain ⟨p, a, hk, ha, hp, hwE, hwD⟩ := hS.write hr ho h0 (x := fullB (ByteArray.mk #[97])) (fullB_size _)
  have hW := write16_spec H7 (hRX.at H7.under).1 (hRX.at H7.under).2 (by omega) hF 0 0 1 (fullB (ByteArray.mk #[97]))
  rw [hwE, hwD, hl4, hb4] at hW
  refine hW.mono fun e w8 ⟨he8, H8⟩ => ⟨_, he8, ⟨_, H8⟩, no rfl ?_⟩
  have hS2 := hS.set (i := (colR s 0 1).toNat) (p := p) (ha.write (sectorG s.c s.k s.r 0 0) (fullB (ByteArray.mk #[97])))
  have hF2 : FewL (ds.set (colR s 0 1).toNat (some (p, a.write (sectorG s.c s.k s.r 0 0) (fullB (ByteArray.mk #[97]))))) 1000000 := (hH.few 999999).mono (by omega) |>.set (((hH.few 999999) p a (List.mem_of_getElem? hk)).write _ _)
  have hRX2 := hRX.set (blks_set (b := a.write (sectorG s.c s.k s.r 0 0) (fullB (ByteArray.mk #[97]))) hk)
  have hl5 : (ds.set (colR s 0 1).toNat (some (p, a.write (sectorG s.c s.k s.r 0 0) (fullB (ByteArray.mk #[97]))))).length = 4 := by rw [List.length_set, hl4]
  refine ⟨_, _, _, _, _, _, _, _, _, ⟨c1 H8 m1 0 _ rfl, c1 H8 m1 1 _ rfl, c1 H8 m1 2 _ rfl, c1 H8 m1 3 _ rfl, c1 H8 m1 4 _ rfl⟩, ?_⟩
  have hSe := set16_spec (hRX2.w H8) (by omega) hF2 0 0 1
  rw [hl5, hb4] at hSe
  have hse : sectR s (ds.set (colR s 0 1).toNat (some (p, a.write (sectorG s.c s.k s.r 0 0) (fullB (ByteArray.mk #[97]))))) (List.replicate 4 1) 0 0 1 = (fullB (ByteArray.mk #[97]), 0) := by
    obtain ⟨p', a', hk', ha', hsec⟩ := hS2.sec (off := 0) hr h0
    have hlt : (colR s 0 1).toNat < ds.length := by have := (colR_nat hS.ok hr h0).2; have := hS.len; omega
    rw [List.getElem?_set_self hlt] at hk'
    cases hk'
    rw [write_read ha (by have := sectorG_in hS.ok hr ho; have := hS.size; omega) (fullB_size _)] at hsec
    unfold sectR
    rw [if_neg (by rw [hS2.at0 hr ho]; simp), if_neg (by rw [gc]; omega), hsec, if_pos (by decide)]
  rw [hse] at hSe
  refine hSe.mono fun e w9 ⟨he9, hx9⟩ => ⟨_, _, he9, ?_⟩
  refine (full16_spec _ (by decide) _).mono fun e w10 ⟨he10, hx10⟩ => ⟨_, he10, yes (by simp) (yes rfl ?_)⟩
  have H10 := H8.quiet (hx9.trans hx10)
  refine ⟨_, _, _, _, _, _, _, _, _, ⟨c1 H10 m1 0 _ rfl, c1 H10 m1 1 _ rfl, c1 H10 m1 2 _ rfl, c1 H10 m1 3 _ rfl, c1 H10 m1 4 _ rfl⟩, ?_⟩
  have hMy := may16_spec (hRX2.w H10) (by omega)
  rw [hl5, hb4, decide_eq_true hS2.may] at hMy
  exact hMy.mono fun e w11 ⟨he, hx⟩ => ⟨_, he, rfl, H10.ext.trans hx⟩
end Go.Proofs.YtedbbdeeofdepaaGreat
end
section
/-! row: RowArgs. -/
namespace Go.Proofs.YtedbbdeeofdepaaGreat
open Go.Sh Go.RowKit
set_option linter.unusedVariables false
set_option linter.unusedSimpArgs false
set_option maxRecDepth 20000
set_option maxHeartbeats 1000000
theorem writeD_blks (s : RwS) (ds : List Od) (bu : List Int) (row off role : Int) (x : ByteArray) : blks (writeD s ds bu row off role x) = blks ds := by
  unfold writeD
  split
  · rfl
  split
  · rfl
  split
  · rfl
  · rename_i y hy
    obtain ⟨p, a⟩ := y
    exact blks_set (thereO_get hy).1
theorem writeD_few {s : RwS} {ds : List Od} {bu : List Int} {row off role : Int} {x : ByteArray} {M : Nat} (h : FewL ds M) : FewL (writeD s ds bu row off role x) (M + 1) := by
  unfold writeD
  split
  · exact h.mono (by omega)
  split
  · exact h.mono (by omega)
  split
  · exact h.mono (by omega)
  · rename_i y hy
    obtain ⟨p, a⟩ := y
    exact (h.mono (Nat.le_succ M)).set ((h p a (List.mem_of_getElem? (thereO_get hy).1)).write _ _)
/-- what is read of drives that hold -/
theorem SetHold.sec {s : RwS} {ds : List Od} {bu : List Int} {N : Nat} {f : Nat → Nat → ByteArray} (hH : SetHold ds N f) (h : SetOn s ds bu N) {row off role : Int} (hr : 0 ≤ row ∧ row < s.r) (ho : 0 ≤ off ∧ off < s.k) (h0 : 0 ≤ role ∧ role < s.c) : secR s ds bu row off role = (f (colR s row role).toNat (sectorG s.c s.k s.r row off).toNat, 0) := by
  obtain ⟨p, a, hk, ha, hs⟩ := h.sec (off := off) hr h0
  have hlt : (colR s row role).toNat < ds.length := by have := (colR_nat h.ok hr h0).2; have := h.len; omega
  obtain ⟨q, b, hk2, hb⟩ := hH _ hlt
  rw [hk] at hk2
  cases hk2
  have hi := sectorG_in h.ok hr ho
  have := h.size
  rw [hs]
  have e : sectorG s.c s.k s.r row off = ((sectorG s.c s.k s.r row off).toNat : Int) := by omega
  rw [e, hb.read (by omega), Int.toNat_natCast]
theorem colL_none {f : Nat → ByteArray × Int} {n : Nat} (h : ∀ i, i < n → (f i).2 = 0) : colL f n = [] := by
  unfold colL
  rw [List.map_eq_nil_iff, List.filter_eq_nil_iff]
  intro i hi
  simp [h i (List.mem_range.1 hi)]
theorem SetHold.read {s : RwS} {ds : List Od} {bu : List Int} {N : Nat} {f : Nat → Nat → ByteArray} (hH : SetHold ds N f) (h : SetOn s ds bu N) {row off : Int} (hr : 0 ≤ row ∧ row < s.r) (ho : 0 ≤ off ∧ off < s.k) :
    readR s ds bu row off = .ok ((List.range s.c.toNat).map (fun i : Nat => (f (colR s row i).toNat (sectorG s.c s.k s.r row off).toNat).data.toList), []) := by
  have hs : ∀ i : Nat, i < s.c.toNat → secR s ds bu row off i = (f (colR s row i).toNat (sectorG s.c s.k s.r row off).toNat, 0) := fun i hi => hH.sec h hr ho (by omega)
  unfold readR
  rw [if_neg (by rw [h.at0 hr ho]; simp), if_neg]
  · rw [colL_none fun i hi => by rw [hs i hi]]
    congr 2
    unfold colX
    exact List.map_congr_left fun i hi => congrArg (fun z : ByteArray × Int => z.1.data.toList) (hs i (List.mem_range.1 hi))
  · intro ha
    obtain ⟨i, hi, hb⟩ := List.any_eq_true.1 ha
    rw [hs i (List.mem_range.1 hi)] at hb
    cases hb
theorem ptrsAt.drop {w : World} {p : Option Addr} {l : List (Option Nat)} (h : ptrsAt w p l) {c n : Nat} (hc : l.length ≤ c) : ptrsAt w (cutP p c n) (l.drop n) := by
  unfold cutP
  by_cases e : c = n
  · have : l.drop n = [] := by simp; omega
    rw [this]
    exact ⟨fun hn => absurd rfl hn, fun a ha j s hj => by simp at hj⟩
  · rw [if_neg e]
    refine ⟨fun hn => ?_, fun a ha j s hj => ?_⟩
    · obtain ⟨a, ha⟩ := h.1 (by intro e; subst e; simp at hn)
      exact ⟨_, by rw [ha]; rfl⟩
    · obtain ⟨a', ha', rfl⟩ := Option.map_eq_some_iff.1 ha
      rw [List.getElem?_drop] at hj
      rw [add_add]
      exact h.2 a' ha' _ s hj
theorem Ow.tail {ds : List Od} {F : List Nat} {w0 w : World} {X : List A} (H : Ow (dsK ds) F w0 w X) : Ow (dsK (ds.drop 1)) F w0 w X := by
  cases ds with
  | nil => exact H
  | cons y t => exact Ow.fst (Ow.flip (h := odK y) (g := allK odK t) H)
end Go.Proofs.YtedbbdeeofdepaaGreat
end
section
/-! row: RowWrites. -/
namespace Go.Proofs.YtedbbdeeofdepaaGreat
open Go.Sh Go.RowKit
set_option linter.unusedVariables false
set_option linter.unusedSimpArgs false
set_option maxRecDepth 20000
set_option maxHeartbeats 1000000
theorem AD.Hold.flush {a : AD} {n : Nat} {f : Nat → ByteArray} (h : a.Hold n f) : a.flush.Hold n f := by
  have h1 := h.on.flush1
  refine ⟨h.on.flush, fun j => ?_, fun j => ?_, fun j hj => ?_⟩
  · rw [AD.flush_of h1]; rfl
  · rw [AD.flush_of h1]; exact h.sp j
  · rw [(AD.flush_safe h1 (by rw [h.on.len]; exact hj)).1, AD.top_none (h.pend j), h.safe j hj]
theorem SetHold.flush {ds : List Od} {N : Nat} {f : Nat → Nat → ByteArray} (h : SetHold ds N f) : SetHold (ds.map flushO) N f := fun i hi => by
  rw [List.length_map] at hi
  obtain ⟨p, a, hk, ha⟩ := h i hi
  exact ⟨p, a.flush, by rw [List.getElem?_map, hk]; rfl, ha.flush⟩
theorem flush_blks (ds : List Od) : blks (ds.map flushO) = blks ds := by
  unfold blks
  have e1 : ∀ y : Od, odB (flushO y) = odB y := fun y => by cases y <;> rfl
  rw [List.map_map, show odB ∘ flushO = odB from funext e1]
theorem shown16_end {w w1 : World} (hx : Ext w w1) : Calls Tryz.prog 7 #[] w1 fun e w2 => ∃ b : Bool, e = .returned (.bool b) ∧ RetR w (.bool true) (.bool b) w2 :=
  (shown16_spec w1).mono fun e w2 ⟨he, h2⟩ => ⟨_, he, rfl, hx.trans h2⟩
end Go.Proofs.YtedbbdeeofdepaaGreat
end
