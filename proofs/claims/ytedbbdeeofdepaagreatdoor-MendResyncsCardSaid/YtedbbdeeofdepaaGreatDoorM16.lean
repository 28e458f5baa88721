import Derived.Test.YtedbbdeeofdepaaGreatDoorM12
import Derived.Test.YtedbbdeeofdepaaGreatDoorM14
import Derived.Test.YtedbbdeeofdepaaGreatDoorM15
section
/-! mend: Rebuild, Check, Repair, Resync. -/
namespace Go.Proofs.YtedbbdeeofdepaaGreatDoor
open Go.Sh Go.RowKit
set_option linter.unusedVariables false
set_option linter.unusedSimpArgs false
set_option maxRecDepth 20000
set_option maxHeartbeats 1000000
open Classical in
theorem rebuild_spec {s : RwS} {bu : List Int} {row col r eZ : Int} {w0 w : World} {X : List A} {D : Nat → List Od → Prop} {Z : List Od → Prop} {kk n N : Nat} (hkk : s.k = (kk : Int)) (hN : N ≤ kk)
    (H : Ow (soK s bu (D 0)) [] w0 w X) (hD : ∀ m ds, m ≤ N → D m ds → ds.length = n ∧ RMay s ds bu ∧ FewL ds 1000000) (hrow : 0 ≤ row ∧ row < s.r) (hcol : 0 ≤ col ∧ col < s.c)
    (hal : ∀ ds, D 0 ds → ∃ p a, ds[col.toNat]? = some (some (p, a)) ∧ a.dead = false) (hr : roleG s.c s.k s.r row col = r) (hr0 : 0 ≤ r ∧ r < s.c)
    (hgo : ∀ m ds, m < N → D m ds → ∃ L l, readR s ds bu row m = .ok (L, l) ∧ OkM L (appR l r) ∧ (appR l r).length ≤ 2 ∧ writeE s ds bu row m r (strB ((fillF L (appR l r)).getD r.toNat [])) ≠ 42 ∧ D (m + 1) (writeD s ds bu row m r (strB ((fillF L (appR l r)).getD r.toNat []))))
    (hend : N < kk → eZ ≠ 0 ∧ ∀ ds, D N ds → ∃ L l, readR s ds bu row N = .ok (L, l) ∧ OkM L (appR l r) ∧ ((2 < (appR l r).length ∧ eZ = 60 ∧ Z ds) ∨ ((appR l r).length ≤ 2 ∧ eZ = 42 ∧ writeE s ds bu row N r (strB ((fillF L (appR l r)).getD r.toNat [])) = 42 ∧ Z (writeD s ds bu row N r (strB ((fillF L (appR l r)).getD r.toNat []))))))
    (hall : N = kk → ∀ ds, D kk ds → (if ds.any offO then 42 else 0) = eZ ∧ Z (ds.map flushO)) :
    Calls Tryz.prog 22 #[.agg (rwC s n bu.length), .int .i64 row, .int .i64 col] w fun e w' => e = .returned (.int .i64 eZ) ∧ Ow (soK s bu Z) [] w0 w' X := by
  refine (mend_Rebuild_calls (R := fun v w' => v = .int .i64 eZ ∧ Ow (soK s bu Z) [] w0 w' X) ?_).mono fun e w' ⟨v, he, hv, h⟩ => ⟨by rw [he, hv], h⟩
  unfold mend_Rebuild
  refine Ow.alloc H fun k3 w1 H1 => Ow.alloc H1 fun k4 w2 H2 => ?_
  obtain ⟨ds0, hD0, H2⟩ := so_open H2
  have H2 : Ow (seK s ds0 bu) [] w0 w2 (blk k4 #[.int .i64 row] 3 :: blk k3 (rwC s n bu.length) 30 :: X) := H2
  have c3 : ∀ {h : Kd} {w' : World} {Y : List A}, Ow h [] w0 w' Y → blk k3 (rwC s n bu.length) 30 ∈ Y → ∀ i v, (rwC s n bu.length)[i]? = some v → w'.cell? ⟨k3, i, none⟩ = some v := fun h' hm i v hv => h'.ld hm hv
  refine ⟨_, _, _, _, _, _, _, _, _, ⟨c3 H2 (by repeat (first | exact List.Mem.head _ | refine List.Mem.tail _ ?_)) 0 _ rfl, c3 H2 (by repeat (first | exact List.Mem.head _ | refine List.Mem.tail _ ?_)) 1 _ rfl, c3 H2 (by repeat (first | exact List.Mem.head _ | refine List.Mem.tail _ ?_)) 2 _ rfl, c3 H2 (by repeat (first | exact List.Mem.head _ | refine List.Mem.tail _ ?_)) 3 _ rfl, c3 H2 (by repeat (first | exact List.Mem.head _ | refine List.Mem.tail _ ?_)) 4 _ rfl⟩, ?_⟩
  obtain ⟨hn0, hM0, hF0⟩ := hD 0 ds0 (Nat.zero_le _) hD0
  have hn1 : n ≤ 10 := by have := hM0.2.1; have := hM0.1.2.1; omega
  have hdl := hM0.2.1
  have hMy := may16_spec (se_w H2) (by omega)
  rw [hn0, decide_eq_true hM0] at hMy
  refine hMy.mono fun e w3 ⟨he3, hx3⟩ => ⟨_, he3, no rfl ?_⟩
  have H3 := H2.quiet hx3
  refine ⟨_, H3.ld (b := k4) (by repeat (first | exact List.Mem.head _ | refine List.Mem.tail _ ?_)) rfl, dec_t fun h => absurd h (by omega), dec_f fun _ => ?_⟩
  refine ⟨_, H3.ld (b := k4) (by repeat (first | exact List.Mem.head _ | refine List.Mem.tail _ ?_)) rfl, _, c3 H3 (by repeat (first | exact List.Mem.head _ | refine List.Mem.tail _ ?_)) 2 _ rfl, dec_t fun h => absurd h (by omega), dec_f fun _ => ?_⟩
  refine ⟨dec_t fun h => absurd h (by omega), dec_f fun _ => ?_⟩
  refine ⟨_, c3 H3 (by repeat (first | exact List.Mem.head _ | refine List.Mem.tail _ ?_)) 0 _ rfl, dec_t fun h => absurd h (by omega), dec_f fun _ => ?_⟩
  obtain ⟨p, a, hk, hdead⟩ := hal ds0 hD0
  obtain ⟨ad, had, hcell⟩ := se_dcell H3 hk
  refine ⟨_, _, _, c3 H3 (by repeat (first | exact List.Mem.head _ | refine List.Mem.tail _ ?_)) 3 _ rfl, ad, had, hcol.1, by omega, _, hcell, no rfl ?_⟩
  refine ⟨_, _, _, c3 H3 (by repeat (first | exact List.Mem.head _ | refine List.Mem.tail _ ?_)) 3 _ rfl, ad, had, hcol.1, by omega, _, hcell, ?_⟩
  obtain ⟨F9, w09, X9, hdr⟩ := (se_w H3).drive hk
  refine (dead_a hdr).mono fun e w4 ⟨he4, hx4⟩ => ⟨_, he4, no hdead ?_⟩
  have H4 := H3.quiet hx4
  refine ⟨_, _, _, ⟨c3 H4 (by repeat (first | exact List.Mem.head _ | refine List.Mem.tail _ ?_)) 0 _ rfl, c3 H4 (by repeat (first | exact List.Mem.head _ | refine List.Mem.tail _ ?_)) 1 _ rfl, c3 H4 (by repeat (first | exact List.Mem.head _ | refine List.Mem.tail _ ?_)) 2 _ rfl⟩, _, H4.ld (b := k4) (by repeat (first | exact List.Mem.head _ | refine List.Mem.tail _ ?_)) rfl, ?_⟩
  refine (role_spec s.c s.k s.r row col w4).mono fun e w5 ⟨he5, hx5⟩ => ⟨_, he5, ?_⟩
  rw [hr]
  refine (H4.quiet hx5).alloc fun k7 w6 H6 => H6.st .head (by simp) rfl rfl fun w7 H7 => ?_
  have H7 : Ow (soK s bu (D 0)) [] w0 w7.drew (blk k7 #[.int .i64 r] 3 :: blk k4 #[.int .i64 row] 3 :: blk k3 (rwC s n bu.length) 30 :: X) := (so_shut hD0 H7).drew
  clear H2 H3 H4 H6 hMy hcell hdr
  generalize hB : blk k7 #[.int .i64 r] 3 :: blk k4 #[.int .i64 row] 3 :: blk k3 (rwC s n bu.length) 30 :: X = B at H7
  have m7 : blk k7 #[.int .i64 r] 3 ∈ B := by rw [← hB]; exact (by repeat (first | exact List.Mem.head _ | refine List.Mem.tail _ ?_))
  have m4 : blk k4 #[.int .i64 row] 3 ∈ B := by rw [← hB]; exact (by repeat (first | exact List.Mem.head _ | refine List.Mem.tail _ ?_))
  have m3 : blk k3 (rwC s n bu.length) 30 ∈ B := by rw [← hB]; exact (by repeat (first | exact List.Mem.head _ | refine List.Mem.tail _ ?_))
  have drop : ∀ {h : Kd} {w' : World}, Ow h [] w0 w' B → Ow h [] w0 w' X := fun h' => by rw [← hB] at h'; exact h'.dropX.dropX.dropX
  refine ⟨fun w' => ∃ h, Ow h [] w0 w' B, ⟨_, H7⟩, _, _, _, _, _, _, _, _, _, fun w' ⟨h, h'⟩ => ⟨c3 h' m3 0 _ rfl, c3 h' m3 1 _ rfl, c3 h' m3 2 _ rfl, c3 h' m3 3 _ rfl, c3 h' m3 4 _ rfl⟩, _, _, _, _, _, _, _, _, _, fun w' ⟨h, h'⟩ => ⟨c3 h' m3 0 _ rfl, c3 h' m3 1 _ rfl, c3 h' m3 2 _ rfl, c3 h' m3 3 _ rfl, c3 h' m3 4 _ rfl⟩, _, fun w' ⟨h, h'⟩ => h'.ld m4 rfl, ?_⟩
  have go : ∀ m ds, m < N → D m ds → ∃ L l, readR s ds bu row m = .ok (L, l) ∧ ∀ W Γ g c g' c', Ow (seK s ds bu) [] w0 W (rowP 9 1 g L.length c (txts L) :: rowP 3 1 g' l.length c' (intsI l) :: (Γ ++ B)) →
      CallF Tryz.prog (.func (.func 52) #[] #[.pointer (some ⟨k7, 0, none⟩), .pointer (some ⟨k3, 0, none⟩), .pointer (some ⟨k4, 0, none⟩)]) [.int .i64 (m : Int), .slice (ptr g) L.length c, .slice (ptr g') l.length c'] W fun e w' => e = .returned (.int .i64 0) ∧ Ow (soK s bu (D (m + 1))) [] w0 w' (Γ ++ B) := by
    intro m ds hm hDm
    obtain ⟨hn, hM, hF⟩ := hD m ds (by omega) hDm
    obtain ⟨L, l, hR, hO, h2, hne, hnext⟩ := hgo m ds hm hDm
    refine ⟨L, l, hR, fun W Γ g c g' c' hW => CallF.func (by kernel_rfl) ?_⟩
    refine (reb1_spec (Y := Γ ++ B) hW (List.mem_append_right _ m7) (by rw [hn]; exact List.mem_append_right _ m3) (List.mem_append_right _ m4) hM hF hR hr0 hO).mono fun e w' h => ?_
    rw [if_pos h2, if_neg hne] at h
    exact ⟨h.1, so_shut hnext h.2⟩
  by_cases hNk : N = kk
  · subst hNk
    refine (each_spec (s := s) (bu := bu) (N := N) (n := n) (X := fun _ => B) (XZ := B) (D := D) (Z := D N) (eZ := 0) rfl rfl hkk (Nat.le_refl _) H7 hD hrow go (fun h => by omega) (fun _ => ⟨rfl, fun _ h => h, rfl⟩)).mono fun e w8 ⟨he8, H8⟩ => ⟨_, he8, ⟨_, H8⟩, ?_⟩
    obtain ⟨ds, hDm, H8⟩ := so_open H8
    obtain ⟨hn, hM, hF⟩ := hD N ds (Nat.le_refl _) hDm
    obtain ⟨q1, q2⟩ := hall rfl ds hDm
    have hdn := done19_ok H8 (by omega) hF hM
    rw [hn, q1] at hdn
    exact hdn.mono fun e w9 ⟨he9, H9⟩ => ⟨_, he9, ⟨_, H9⟩, rfl, drop (so_shut q2 H9)⟩
  · obtain ⟨hne, hlast⟩ := hend (by omega)
    refine (each_spec (s := s) (bu := bu) (N := N) (n := n) (X := fun _ => B) (XZ := B) (D := D) (Z := Z) (eZ := eZ) rfl rfl hkk hN H7 hD hrow go (fun _ => ⟨hne, fun ds hDm => ?_⟩) (fun h => absurd h hNk)).mono fun e w8 ⟨he8, H8⟩ => ⟨_, he8, ⟨_, H8⟩, ?_⟩
    · obtain ⟨hn, hM, hF⟩ := hD N ds (Nat.le_refl _) hDm
      obtain ⟨L, l, hR, hO, hcase⟩ := hlast ds hDm
      refine ⟨L, l, hR, fun W Γ g c g' c' hW => CallF.func (by kernel_rfl) ?_⟩
      refine (reb1_spec (Y := Γ ++ B) hW (List.mem_append_right _ m7) (by rw [hn]; exact List.mem_append_right _ m3) (List.mem_append_right _ m4) hM hF hR hr0 hO).mono fun e w' h => ?_
      rcases hcase with ⟨h2, e6, hZ⟩ | ⟨h2, e4, hw, hZ⟩
      · rw [if_neg (by omega)] at h
        exact ⟨by rw [h.1, e6], so_shut hZ h.2⟩
      · rw [if_pos h2, if_pos hw] at h
        exact ⟨by rw [h.1, e4], so_shut hZ h.2⟩
    · exact (done19_err H8 hne).mono fun e w9 ⟨he9, H9⟩ => ⟨_, he9, ⟨_, H9⟩, rfl, drop H9⟩
/-- how many of the first are so -/
def cntL (p : Nat → Bool) (n : Nat) : Nat := ((List.range n).filter p).length
theorem cntL_yes {p : Nat → Bool} {n : Nat} (h : p n = true) : cntL p (n + 1) = cntL p n + 1 := by
  unfold cntL
  rw [List.range_succ]
  simp [h]
theorem cntL_no {p : Nat → Bool} {n : Nat} (h : p n = false) : cntL p (n + 1) = cntL p n := by
  unfold cntL
  rw [List.range_succ]
  simp [h]
theorem cntL_le (p : Nat → Bool) (n : Nat) : cntL p n ≤ n := Nat.le_trans (List.length_filter_le _ _) (by simp)
/-- Check, where nothing is lost: how many places are not good -/
theorem check19_spec {s : RwS} {ds : List Od} {bu : List Int} {row : Int} {w0 w : World} {X : List A} {kk : Nat} (hkk : s.k = (kk : Int)) (hM : RMay s ds bu) (hF : FewL ds 1000000) (H : Ow (seK s ds bu) [] w0 w X) (hrow : 0 ≤ row ∧ row < s.r) {L : Nat → List Txt}
    (hR : ∀ m, m < kk → readR s ds bu row m = .ok (L m, []) ∧ OkM (L m) []) :
    Calls Tryz.prog 15 #[.agg (rwC s ds.length bu.length), .int .i64 row] w fun e w' => e = .returned (.tuple #[.int .i64 (cntL (fun m => decide ((judV (L m)).1 ≠ 0)) kk : Nat), .int .i64 0]) ∧ Ow (seK s ds bu) [] w0 w' X := by
  refine (mend_Check_calls (R := fun v w' => v = .tuple #[.int .i64 (cntL (fun m => decide ((judV (L m)).1 ≠ 0)) kk : Nat), .int .i64 0] ∧ Ow (seK s ds bu) [] w0 w' X) ?_).mono fun e w' ⟨v, he, hv, h⟩ => ⟨by rw [he, hv], h⟩
  unfold mend_Check
  refine Ow.alloc H fun k2 w1 H1 => Ow.alloc H1 fun k6 w2 H2 => H2.st .head (by simp) rfl rfl fun w3 H3 => ?_
  have H3 : Ow (seK s ds bu) [] w0 w3 (blk k6 #[.int .i64 0] 3 :: blk k2 (rwC s ds.length bu.length) 30 :: X) := H3
  refine ⟨_, _, _, _, _, _, _, _, _, ⟨H3.ld (b := k2) (c := rwC s ds.length bu.length) (by repeat (first | exact List.Mem.head _ | refine List.Mem.tail _ ?_)) rfl, H3.ld (b := k2) (c := rwC s ds.length bu.length) (by repeat (first | exact List.Mem.head _ | refine List.Mem.tail _ ?_)) rfl, H3.ld (b := k2) (c := rwC s ds.length bu.length) (by repeat (first | exact List.Mem.head _ | refine List.Mem.tail _ ?_)) rfl, H3.ld (b := k2) (c := rwC s ds.length bu.length) (by repeat (first | exact List.Mem.head _ | refine List.Mem.tail _ ?_)) rfl, H3.ld (b := k2) (c := rwC s ds.length bu.length) (by repeat (first | exact List.Mem.head _ | refine List.Mem.tail _ ?_)) rfl⟩, ?_⟩
  have hk1 := hM.1
  have hkB : kk ≤ 1000 := by unfold OkG at hk1; omega
  generalize hp : (fun m => decide ((judV (L m)).1 ≠ 0)) = p
  refine (whole_all (s := s) (bu := bu) (kk := kk) (n := ds.length) (D := fun _ d => d = ds) (X := fun m => blk k6 #[.int .i64 (cntL p m : Nat)] 3 :: blk k2 (rwC s ds.length bu.length) 30 :: X) rfl rfl hkk (so_shut rfl H3) (fun m d _ hd => by rw [hd]; exact ⟨rfl, hM, hF⟩) hrow (fun m d hm hd => ?_)).mono fun e w4 ⟨he4, H4⟩ => ⟨_, he4, Join.intro fun J hJ => no rfl ?_⟩
  · subst hd
    obtain ⟨q1, q2⟩ := hR m hm
    refine ⟨L m, q1, fun W Γ g c hW => CallF.func (by kernel_rfl) ?_⟩
    refine (mend_Check_1_calls (R := fun v w' => v = .int .i64 0 ∧ Ow (soK s bu fun d' => d' = d) [] w0 w' (Γ ++ (blk k6 #[.int .i64 (cntL p (m + 1) : Nat)] 3 :: blk k2 (rwC s d.length bu.length) 30 :: X))) ?_).mono fun e w' ⟨v, he, hv, h⟩ => ⟨by rw [he, hv], h⟩
    unfold mend_Check_1
    have hs := T.strs hW.under (g := g) (L := L m) (n := (L m).length) (cap := c) List.mem_cons_self
    have hcap : (L m).length ≤ c := (hW.under.says (x := rowP 9 1 g (L m).length c (txts (L m))) List.mem_cons_self).2.1
    have hS : Short (L m) := (read_short (se_w hW) q1).1
    refine (judge_spec hS (by have := q2.n10; omega) hcap hs.1).mono fun e w1 ⟨hx, hj⟩ => ?_
    rcases hj with ⟨_, he⟩ | ⟨hno, _⟩
    · refine ⟨_, _, _, he, bne_t fun h0 => ?_, bne_f fun h0 => ?_⟩
      · have hW1 := (hW.quiet hx).dropX
        have hpm : p m = true := by rw [← hp]; exact decide_eq_true h0
        have hw : IntKind.i64.wrap ((cntL p m : Int) + 1) = ((cntL p (m + 1) : Nat) : Int) := by rw [cntL_yes hpm, wrap64 _ (by have := cntL_le p m; omega) (by have := cntL_le p m; omega)]; rfl
        have hW2 : Ow (seK s d bu) [] w0 w1 (blk k6 #[.int .i64 (cntL p m : Nat)] 3 :: (Γ ++ blk k2 (rwC s d.length bu.length) 30 :: X)) := hW1.perm List.perm_middle
        refine ⟨_, hW2.ld (b := k6) (by repeat (first | exact List.Mem.head _ | refine List.Mem.tail _ ?_)) rfl, hW2.st (c' := #[.int .i64 (cntL p (m + 1) : Nat)]) .head (by simp) (by rw [hw]; rfl) rfl fun w2 h2 => ⟨rfl, so_shut rfl (h2.perm List.perm_middle.symm)⟩⟩
      · have hpm : p m = false := by rw [← hp]; exact decide_eq_false (by simp [h0])
        rw [cntL_no hpm]
        exact ⟨rfl, so_shut rfl (hW.quiet hx).dropX⟩
    · exact absurd q2 hno
  · obtain ⟨d, rfl, H4⟩ := so_open H4
    exact hJ [] _ ⟨rfl, _, H4.ld (b := k6) (by repeat (first | exact List.Mem.head _ | refine List.Mem.tail _ ?_)) rfl, rfl, H4.dropX.dropX⟩
/-- Check, where something is lost -/
theorem check19_lost {s : RwS} {ds : List Od} {bu : List Int} {row : Int} {w0 w : World} {X : List A} {L : List Txt} {l : List Int} (hk0 : 0 < s.k) (hl : 0 < l.length) (hM : RMay s ds bu) (hF : FewL ds 1000000) (H : Ow (seK s ds bu) [] w0 w X) (hrow : 0 ≤ row ∧ row < s.r) (hR : readR s ds bu row 0 = .ok (L, l)) :
    Calls Tryz.prog 15 #[.agg (rwC s ds.length bu.length), .int .i64 row] w fun e w' => e = .returned (.tuple #[.int .i64 0, .int .i64 5]) ∧ Ow (seK s ds bu) [] w0 w' X := by
  refine (mend_Check_calls (R := fun v w' => v = .tuple #[.int .i64 0, .int .i64 5] ∧ Ow (seK s ds bu) [] w0 w' X) ?_).mono fun e w' ⟨v, he, hv, h⟩ => ⟨by rw [he, hv], h⟩
  unfold mend_Check
  refine Ow.alloc H fun k2 w1 H1 => Ow.alloc H1 fun k6 w2 H2 => H2.st .head (by simp) rfl rfl fun w3 H3 => ?_
  have H3 : Ow (seK s ds bu) [] w0 w3 (blk k6 #[.int .i64 0] 3 :: blk k2 (rwC s ds.length bu.length) 30 :: X) := H3
  refine ⟨_, _, _, _, _, _, _, _, _, ⟨H3.ld (b := k2) (c := rwC s ds.length bu.length) (by repeat (first | exact List.Mem.head _ | refine List.Mem.tail _ ?_)) rfl, H3.ld (b := k2) (c := rwC s ds.length bu.length) (by repeat (first | exact List.Mem.head _ | refine List.Mem.tail _ ?_)) rfl, H3.ld (b := k2) (c := rwC s ds.length bu.length) (by repeat (first | exact List.Mem.head _ | refine List.Mem.tail _ ?_)) rfl, H3.ld (b := k2) (c := rwC s ds.length bu.length) (by repeat (first | exact List.Mem.head _ | refine List.Mem.tail _ ?_)) rfl, H3.ld (b := k2) (c := rwC s ds.length bu.length) (by repeat (first | exact List.Mem.head _ | refine List.Mem.tail _ ?_)) rfl⟩, ?_⟩
  refine (whole_lost rfl rfl hk0 hl H3 hM hF hrow hR).mono fun e w4 ⟨he4, H4⟩ => ⟨_, he4, Join.intro fun J hJ => yes rfl ?_⟩
  exact H4.st (c' := #[.int .i64 0]) .head (by simp) rfl rfl fun w5 H5 => hJ [] _ ⟨rfl, _, H5.ld (b := k6) (by repeat (first | exact List.Mem.head _ | refine List.Mem.tail _ ?_)) rfl, rfl, H5.dropX.dropX⟩
end Go.Proofs.YtedbbdeeofdepaaGreatDoor
end
section
/-! mend: Repair, Resync. -/
namespace Go.Proofs.YtedbbdeeofdepaaGreatDoor
open Go.Sh Go.RowKit
set_option linter.unusedVariables false
set_option linter.unusedSimpArgs false
set_option maxRecDepth 20000
set_option maxHeartbeats 1000000
/-- what is repaired, as parts -/
theorem repairT_spec {L : List Txt} (hS : Short L) {p0 : Option Addr} {c0 : Nat} (hcl : L.length ≤ c0) {w : World} (hp : strsL w p0 L) (hk : OkM L []) {i : Nat} (hj : judV L = (1, (i : Int))) (hil : i < L.length) :
    Calls Tryz.prog 39 #[.slice p0 L.length c0] w fun e w' => ∃ b cap, e = .returned (.tuple #[.slice (some ⟨b, 0, none⟩) L.length cap, .int .i64 (i : Int), .int .i64 0]) ∧ T [] w w' [rowP 9 1 (some b) L.length cap (txts (fillF L [(i : Int)]))] := by
  refine (scrub_Repair_calls (R := fun v w' => ∃ b cap, v = (.tuple #[.slice (some ⟨b, 0, none⟩) L.length cap, .int .i64 (i : Int), .int .i64 0]) ∧ T [] w w' [rowP 9 1 (some b) L.length cap (txts (fillF L [(i : Int)]))]) ?_).mono fun e w' ⟨v, he, p, c, hv, h⟩ => ⟨p, c, by rw [he, hv], h⟩
  unfold scrub_Repair
  have n10 := hk.n10
  refine (judge_spec hS (by omega) hcl hp).mono fun e w1 ⟨hx1, h⟩ => ?_
  rcases h with ⟨_, he⟩ | ⟨hk', he⟩
  rotate_left
  · exact absurd hk hk'
  refine ⟨_, _, _, he, no rfl ?_⟩
  rw [hj]
  refine no rfl (no rfl ?_)
  refine Alloc.t ((T.nil w).quiet hx1) fun k30 w3 h3 => ?_
  have h3 : T [] w w3 [rowP 3 1 (some k30) 1 1 (intsI [(i : Int)])] := blk_row h3 rfl rfl (by decide)
  refine (fill_spec (L := L) (lost := [(i : Int)]) (c := c0) (d := 1) (by simp) (by omega) hS (hp.ext h3.chg.ext) (T.ints h3 List.mem_cons_self).1).mono fun e w4 hr4 => ?_
  rcases hr4 with ⟨_, _, b, cap, he, h4⟩ | ⟨n, _, _, _, h60, _⟩
  · exact ⟨_, _, _, _, he, b, cap, rfl, T.leave (Γ := [_]) (Δ := [rowP 3 1 (some k30) 1 1 (intsI [(i : Int)])]) (T.call (Γ := []) h3 h4)⟩
  · exact absurd (h60 (hk.lose hil)).1 (by simp)
theorem parityT_spec {L : List Txt} (hS : Short L) {p0 : Option Addr} {c0 : Nat} (hcl : L.length ≤ c0) {w : World} (hp : strsL w p0 L) (hk : OkM L []) :
    Calls Tryz.prog 44 #[.slice p0 L.length c0] w fun e w' => ∃ b cap, e = .returned (.tuple #[.slice (some ⟨b, 0, none⟩) L.length cap, .int .i64 0]) ∧ T [] w w' [rowP 9 1 (some b) L.length cap (txts (makeF (L.take (L.length - 2))))] := by
  refine (scrub_Parity_calls (R := fun v w' => ∃ b cap, v = (.tuple #[.slice (some ⟨b, 0, none⟩) L.length cap, .int .i64 0]) ∧ T [] w w' [rowP 9 1 (some b) L.length cap (txts (makeF (L.take (L.length - 2))))]) ?_).mono fun e w' ⟨v, he, p, c, hv, h⟩ => ⟨p, c, by rw [he, hv], h⟩
  unfold scrub_Parity
  have n4 := hk.n4
  have n10 := hk.n10
  refine Alloc.t (T.nil w) fun k1 w1 h1 => ⟨_, _, _, h1.ld (b := k1) (by repeat (first | exact List.Mem.head _ | refine List.Mem.tail _ ?_)) rfl, ?_⟩
  have hm := fmay_spec (L := L) (lost := []) (c := c0) (d := 0) (by simp) (by omega) hS (hp.ext h1.chg.ext) (ints_nil w1)
  refine hm.mono fun e w2 ⟨n, he, hx2, hok, hno⟩ => ⟨n, he, bne_t fun hn => absurd (hok hk) (fun h => hn (by rw [h]; rfl)), bne_f fun hn => ?_⟩
  have h2 := h1.quiet hx2
  refine (scrub_Parity_1_calls (R := fun v w' => v = .slice p0 (L.length - 2) c0 ∧ T [] w w' [blk k1 #[.slice p0 L.length c0] 22]) ?_).mono ?_
  · unfold scrub_Parity_1
    refine ⟨_, _, _, h2.ld (b := k1) (by repeat (first | exact List.Mem.head _ | refine List.Mem.tail _ ?_)) rfl, _, _, _, h2.ld (b := k1) (by repeat (first | exact List.Mem.head _ | refine List.Mem.tail _ ?_)) rfl, _, _, _, w2, strs_to (by rw [(wrap2 (n := L.length) (by omega) (by omega)).1]; omega) (by rw [(wrap2 (n := L.length) (by omega) (by omega)).1]; omega) w2, ?_, h2⟩
    rw [(wrap2 (n := L.length) (by omega) (by omega)).1, Int.toNat_natCast]
  rintro e w3 ⟨v, he, rfl, h3⟩
  refine ⟨_, _, _, he, ?_⟩
  have htl : (L.take (L.length - 2)).length = L.length - 2 := by rw [List.length_take]; omega
  have f3 := make_spec (L := L.take (L.length - 2)) (c := c0) (by omega) (hS.take _) (by omega) ((hp.ext h3.chg.ext).take _)
  rw [htl] at f3
  refine f3.mono fun e w4 hr4 => ?_
  rcases hr4 with ⟨_, b, cap, he, h4⟩ | ⟨hno, _⟩
  · rw [show L.length - 2 + 2 = L.length by omega] at he h4
    exact ⟨_, _, _, _, he, b, cap, rfl, T.leave (Γ := [_]) (Δ := [blk k1 #[.slice p0 L.length c0] 22]) (T.call (Γ := []) h3 h4)⟩
  · exact absurd (take_ok hk) hno
/-- the state while a row's places are made right one by one: below m they are G, from m on L -/
def MdD (s : RwS) (bu : List Int) (N M : Nat) (K : Nat → Nat) (row : Int) (c kk q : Nat) (L G : Nat → List Txt) (m : Nat) (ds : List Od) : Prop :=
  ∃ f, MdS s ds bu N (M + q * m) K f ∧ ∀ j : Nat, j < kk → rwT s f row j c = if j < m then G j else L j
theorem mdD_step {s : RwS} {ds : List Od} {bu : List Int} {N M : Nat} {K : Nat → Nat} {row : Int} {c kk q m : Nat} {L G : Nat → List Txt} (h : MdD s bu N M K row c kk q L G m ds) (hm : m < kk) (he : G m = L m) : MdD s bu N M K row c kk q L G (m + 1) ds := by
  obtain ⟨f, h1, h2⟩ := h
  refine ⟨f, h1.mono (Nat.add_le_add_left (Nat.mul_le_mul_left q (Nat.le_succ m)) M), fun j hj => ?_⟩
  rw [h2 j hj]
  rcases Nat.lt_trichotomy j m with h | h | h
  · rw [if_pos h, if_pos (by omega)]
  · subst h
    rw [if_neg (by omega), if_pos (by omega), he]
  · rw [if_neg (by omega), if_neg (by omega)]
theorem set_set_same {L : List Txt} {i : Nat} {x y : Txt} : (L.set i x).set i y = L.set i y := List.set_set ..
/-- Repair, where nothing is lost -/
theorem repair19_spec {s : RwS} {bu : List Int} {row : Int} {w0 w : World} {X : List A} {N M kk c : Nat} {K : Nat → Nat} {L G : Nat → List Txt} (hkk : s.k = (kk : Int)) (hc : s.c = (c : Int)) (hMB : M + 1 * kk ≤ 1000000)
    (hK : ∀ i, i < c → K i = 0) (hb : ∀ i, i < c → row < bu.getD i 0) (hrow : 0 ≤ row ∧ row < s.r)
    (hL : ∀ m, m < kk → OkM (L m) [] ∧ ((judV (L m) = (0, 0) ∧ G m = L m) ∨ ∃ i : Nat, i < c ∧ judV (L m) = (1, (i : Int)) ∧ fillF (L m) [(i : Int)] = G m ∧ (L m).set i ((G m).getD i []) = G m ∧ ((G m).getD i []).length = 64))
    {ds : List Od} (h0 : MdD s bu N M K row c kk 1 L G 0 ds) (H : Ow (seK s ds bu) [] w0 w X) :
    Calls Tryz.prog 16 #[.agg (rwC s ds.length bu.length), .int .i64 row] w fun e w' => e = .returned (.tuple #[.int .i64 (cntL (fun m => decide ((judV (L m)).1 = 1)) kk : Nat), .int .i64 0, .int .i64 0]) ∧ Ow (soK s bu fun ds' => ∃ d, ds' = d.map flushO ∧ MdD s bu N M K row c kk 1 L G kk d) [] w0 w' X := by
  refine (mend_Repair_calls (R := fun v w' => v = (.tuple #[.int .i64 (cntL (fun m => decide ((judV (L m)).1 = 1)) kk : Nat), .int .i64 0, .int .i64 0]) ∧ Ow (soK s bu fun ds' => ∃ d, ds' = d.map flushO ∧ MdD s bu N M K row c kk 1 L G kk d) [] w0 w' X) ?_).mono fun e w' ⟨v, he, hv, h⟩ => ⟨by rw [he, hv], h⟩
  unfold mend_Repair
  have hlen : ∀ {m ds'}, MdD s bu N M K row c kk 1 L G m ds' → ds'.length = c := fun ⟨f, h, _⟩ => by have := h.len; omega
  have hn := hlen h0
  have hok : OkG s.c s.k s.r := by obtain ⟨f, h, _⟩ := h0; exact h.ok
  have hkB : kk ≤ 1000 ∧ c ≤ 10 := by unfold OkG at hok; omega
  refine Ow.alloc H fun k2 w1 H1 => Ow.alloc H1 fun k3 w2 H2 => Ow.alloc H2 fun k4 w3 H3 => Ow.alloc H3 fun k5 w4 H4 => ?_
  generalize hp : (fun m => decide ((judV (L m)).1 = 1)) = p
  have H4 : Ow (seK s ds bu) [] w0 w4.drew (blk k5 #[.int .i64 0] 3 :: blk k4 #[.int .i64 (cntL p 0 : Nat)] 3 :: blk k3 #[.int .i64 row] 3 :: blk k2 (rwC s ds.length bu.length) 30 :: X) := H4.drew
  have c2 : ∀ {h : Kd} {w' : World} {Y : List A}, Ow h [] w0 w' Y → blk k2 (rwC s ds.length bu.length) 30 ∈ Y → ∀ i v, (rwC s ds.length bu.length)[i]? = some v → w'.cell? ⟨k2, i, none⟩ = some v := fun h' hm i v hv => h'.ld hm hv
  generalize hB : (fun m : Nat => blk k5 #[.int .i64 0] 3 :: blk k4 #[.int .i64 (cntL p m : Nat)] 3 :: blk k3 #[.int .i64 row] 3 :: blk k2 (rwC s ds.length bu.length) 30 :: X) = B
  have H4 : Ow (soK s bu (MdD s bu N M K row c kk 1 L G 0)) [] w0 w4.drew (B 0) := by rw [← hB]; exact so_shut h0 H4
  have m2 : ∀ m, blk k2 (rwC s ds.length bu.length) 30 ∈ B m := fun m => by rw [← hB]; exact (by repeat (first | exact List.Mem.head _ | refine List.Mem.tail _ ?_))
  have m3 : ∀ m, blk k3 #[.int .i64 row] 3 ∈ B m := fun m => by rw [← hB]; exact (by repeat (first | exact List.Mem.head _ | refine List.Mem.tail _ ?_))
  refine ⟨fun w' => ∃ h m, Ow h [] w0 w' (B m), ⟨_, _, H4⟩, _, _, _, _, _, _, _, _, _, fun w' ⟨h, m, h'⟩ => ⟨c2 h' (m2 m) 0 _ rfl, c2 h' (m2 m) 1 _ rfl, c2 h' (m2 m) 2 _ rfl, c2 h' (m2 m) 3 _ rfl, c2 h' (m2 m) 4 _ rfl⟩, _, _, _, _, _, _, _, _, _, fun w' ⟨h, m, h'⟩ => ⟨c2 h' (m2 m) 0 _ rfl, c2 h' (m2 m) 1 _ rfl, c2 h' (m2 m) 2 _ rfl, c2 h' (m2 m) 3 _ rfl, c2 h' (m2 m) 4 _ rfl⟩, _, fun w' ⟨h, m, h'⟩ => h'.ld (m3 m) rfl, ?_⟩
  have hD : ∀ m ds', m ≤ kk → MdD s bu N M K row c kk 1 L G m ds' → ds'.length = ds.length ∧ RMay s ds' bu ∧ FewL ds' 1000000 := fun m ds' hm h => by
    refine ⟨by rw [hlen h, hn], ?_⟩
    obtain ⟨f, h, _⟩ := h
    exact ⟨h.may, h.few.mono (by omega)⟩
  refine (whole_all (s := s) (bu := bu) (kk := kk) (n := ds.length) (D := MdD s bu N M K row c kk 1 L G) (X := B) rfl rfl hkk H4 hD hrow (fun m ds' hm hDm => ?_)).mono fun e w5 ⟨he5, H5⟩ => ⟨_, he5, ⟨_, _, H5⟩, ?_⟩
  · obtain ⟨hn', hM', hF'⟩ := hD m ds' (by omega) hDm
    have hDm0 := hDm
    obtain ⟨f, hMd, hrw⟩ := hDm
    obtain ⟨hO, hcase⟩ := hL m hm
    have hR : readR s ds' bu row m = .ok (L m, []) := by
      rw [hMd.readAll hrow (off := (m : Int)) (by omega) hc hK hb, hrw m hm, if_neg (by omega)]
    refine ⟨L m, hR, fun W Γ g cp hW => CallF.func (by kernel_rfl) ?_⟩
    refine (mend_Repair_1_calls (R := fun v w' => v = .int .i64 0 ∧ Ow (soK s bu (MdD s bu N M K row c kk 1 L G (m + 1))) [] w0 w' (Γ ++ B (m + 1))) ?_).mono fun e w' ⟨v, he, hv, h⟩ => ⟨by rw [he, hv], h⟩
    unfold mend_Repair_1
    have hs := T.strs hW.under (g := g) (L := L m) (n := (L m).length) (cap := cp) List.mem_cons_self
    have hcap : (L m).length ≤ cp := (hW.under.says (x := rowP 9 1 g (L m).length cp (txts (L m))) List.mem_cons_self).2.1
    have hS : Short (L m) := (read_short (se_w hW) hR).1
    have hLc : (L m).length = c := by have := hrw m hm; rw [if_neg (by omega)] at this; rw [← this, rwT_len]
    refine (judge_spec hS (by omega) hcap hs.1).mono fun e w1 ⟨hx, hj⟩ => ?_
    rcases hj with ⟨_, he⟩ | ⟨hno, _⟩
    rotate_left
    · exact absurd hO hno
    rcases hcase with ⟨hj0, hG⟩ | ⟨i, hic, hj1, hfil, hset, h64⟩
    · rw [hj0] at he
      refine ⟨_, _, _, he, no rfl (no rfl ⟨rfl, ?_⟩)⟩
      have hpm : p m = false := by rw [← hp]; show decide _ = false; rw [hj0]; rfl
      have eB : B (m + 1) = B m := by rw [← hB]; dsimp only; rw [cntL_no hpm]
      rw [eB]
      exact so_shut (mdD_step hDm0 hm hG) (hW.quiet hx).dropX
    · rw [hj1] at he
      refine ⟨_, _, _, he, no rfl (yes rfl ?_)⟩
      have hpm : p m = true := by rw [← hp]; show decide _ = true; rw [hj1]; rfl
      have hw : IntKind.i64.wrap ((cntL p m : Int) + 1) = ((cntL p (m + 1) : Nat) : Int) := by rw [cntL_yes hpm, wrap64 _ (by have := cntL_le p m; omega) (by have := cntL_le p m; omega)]; rfl
      have hW1 : Ow (seK s ds' bu) [] w0 w1 (blk k4 #[.int .i64 (cntL p m : Nat)] 3 :: (rowP 9 1 g (L m).length cp (txts (L m)) :: (Γ ++ blk k5 #[.int .i64 0] 3 :: blk k3 #[.int .i64 row] 3 :: blk k2 (rwC s ds.length bu.length) 30 :: X))) := by
        have h1 := hW.quiet hx
        rw [← hB] at h1
        refine h1.perm ?_
        refine (List.Perm.cons _ ((List.Perm.append_left Γ (.swap _ _ _)).trans List.perm_middle)).trans (.swap _ _ _)
      refine ⟨_, hW1.ld (b := k4) (by repeat (first | exact List.Mem.head _ | refine List.Mem.tail _ ?_)) rfl, hW1.st (c' := #[.int .i64 (cntL p (m + 1) : Nat)]) .head (by simp) (by rw [hw]; rfl) rfl fun w2 h2 => ?_⟩
      have hW2 : Ow (seK s ds' bu) [] w0 w2 (rowP 9 1 g (L m).length cp (txts (L m)) :: (Γ ++ B (m + 1))) := by
        rw [← hB]
        refine h2.perm ?_
        exact ((List.Perm.cons _ ((List.Perm.append_left Γ (.swap _ _ _)).trans List.perm_middle)).trans (.swap _ _ _)).symm
      have hs2 := T.strs hW2.under (g := g) (L := L m) (n := (L m).length) (cap := cp) List.mem_cons_self
      refine (repairT_spec hS hcap hs2.1 hO hj1 (by omega)).mono fun e w3 ⟨b, cap, he3, hT3⟩ => ⟨_, _, _, _, _, he3, ?_⟩
      have hW3 := (Ow.new hW2.dropX hT3).drew
      rw [hfil] at hW3
      have hGl : (G m).length = c := by rw [← hset, List.length_set, hLc]
      have hcl : ∀ {h : Kd} {w' : World}, Ow h [] w0 w' ([rowP 9 1 (some b) (L m).length cap (txts (G m))] ++ (Γ ++ B (m + 1))) → ∃ a, ptr (some b) = some a ∧ w'.cell? (a.add (i * 1)) = some (.string (strB ((G m).getD i []))) := fun h' =>
        (T.strs h'.under (g := some b) (L := G m) (n := (L m).length) (cap := cap) (by repeat (first | exact List.Mem.head _ | refine List.Mem.tail _ ?_))).1.get (n := i) (by omega)
      obtain ⟨a0, ha0, _⟩ := hcl hW3
      have mG : ∀ {x : A}, x ∈ B (m + 1) → x ∈ [rowP 9 1 (some b) (L m).length cap (txts (G m))] ++ (Γ ++ B (m + 1)) := fun h => List.mem_append_right _ (List.mem_append_right _ h)
      have cA : ∀ {h : Kd} {w' : World}, Ow h [] w0 w' ([rowP 9 1 (some b) (L m).length cap (txts (G m))] ++ (Γ ++ B (m + 1))) → ∀ i v, (rwC s ds.length bu.length)[0 + i]? = some v → w'.cell? (Addr.add ⟨k2, 0, none⟩ i) = some v := fun h' i v hv => by
        rw [addr_add]
        exact h'.ld (mG (m2 (m + 1))) hv
      refine ⟨fun w' => ∃ h, Ow h [] w0 w' ([rowP 9 1 (some b) (L m).length cap (txts (G m))] ++ (Γ ++ B (m + 1))), ⟨_, hW3⟩, _, _, _, _, _, _, _, _, _, fun w' ⟨h, h'⟩ => ⟨c2 h' (mG (m2 _)) 0 _ rfl, cA h' 1 _ rfl, cA h' 2 _ rfl, cA h' 3 _ rfl, cA h' 4 _ rfl⟩, _, fun w' ⟨h, h'⟩ => h'.ld (mG (m3 _)) rfl, a0, ha0, by omega, by rw [hLc]; omega, strB ((G m).getD i []), fun w' ⟨h, h'⟩ => ?_, ?_⟩
      · obtain ⟨a1, ha1, hc1⟩ := hcl h'
        rw [ha0] at ha1; cases ha1
        rw [Int.toNat_natCast]
        exact hc1
      have hsz : (strB ((G m).getD i [])).size = 64 := by rw [strB_size]; exact h64
      have hcol := colR_nat hok hrow (role := (i : Int)) (by omega)
      obtain ⟨hwE, hMd'⟩ := hMd.write hrow (off := (m : Int)) (by omega) (role := (i : Int)) (by omega) rfl (hK _ (by omega)) hsz
      have hpt := put19_spec hW3 (by omega) hF' row m i (strB ((G m).getD i []))
      rw [hwE, if_neg (by decide), hn'] at hpt
      refine hpt.mono fun e w6 ⟨he6, H6⟩ => ⟨_, he6, ⟨_, H6⟩, rfl, so_shut ⟨_, hMd', fun j hj => ?_⟩ H6.dropX⟩
      rw [rwT_up hok hrow (by omega) (by omega) hc hic]
      by_cases e : (j : Int) = (m : Int)
      · obtain rfl : j = m := by omega
        rw [if_pos rfl, if_pos (by omega), hrw j hj, if_neg (by omega)]
        exact hset
      · rw [if_neg e, hrw j hj]
        by_cases e2 : j < m
        · rw [if_pos e2, if_pos (by omega)]
        · rw [if_neg e2, if_neg (by omega)]
  · obtain ⟨d, hDk, H5⟩ := so_open H5
    obtain ⟨hn', hM', hF'⟩ := hD kk d (Nat.le_refl _) hDk
    have hdn := done19_ok H5 (by omega) hF' hM'
    have hno : d.any offO = false := by
      obtain ⟨f, hMd, _⟩ := hDk
      exact hMd.no42 fun i hi => by rw [hK i (by have := hMd.len; omega)]; decide
    rw [hn', hno] at hdn
    refine hdn.mono fun e w6 ⟨he6, H6⟩ => ⟨_, he6, ⟨_, _, H6⟩, no rfl ?_⟩
    rw [← hB] at H6
    have H7 := H6.drew
    refine ⟨fun w' => ∃ h, Ow h [] w0 w' (blk k5 #[.int .i64 0] 3 :: blk k4 #[.int .i64 (cntL p kk : Nat)] 3 :: blk k3 #[.int .i64 row] 3 :: blk k2 (rwC s ds.length bu.length) 30 :: X), ⟨_, H7⟩, _, fun w' ⟨h, h'⟩ => h'.ld (b := k4) (by repeat (first | exact List.Mem.head _ | refine List.Mem.tail _ ?_)) rfl, _, fun w' ⟨h, h'⟩ => h'.ld (b := k5) (by repeat (first | exact List.Mem.head _ | refine List.Mem.tail _ ?_)) rfl, ?_⟩
    refine H7.st (c' := #[.int .i64 (cntL p kk : Nat)]) (.tail .head) (by simp) rfl rfl fun w8 H8 => ⟨⟨_, H8⟩, ?_⟩
    refine H8.st (c' := #[.int .i64 0]) .head (by simp) rfl rfl fun w9 H9 => ⟨⟨_, H9⟩, ?_⟩
    exact ⟨_, H9.ld (b := k4) (by repeat (first | exact List.Mem.head _ | refine List.Mem.tail _ ?_)) rfl, _, H9.ld (b := k5) (by repeat (first | exact List.Mem.head _ | refine List.Mem.tail _ ?_)) rfl, rfl, so_shut ⟨d, rfl, hDk⟩ H9.dropX.dropX.dropX.dropX⟩
end Go.Proofs.YtedbbdeeofdepaaGreatDoor
end
section
/-! mend's laws: how they begin. -/
namespace Go.Proofs.YtedbbdeeofdepaaGreatDoor
open Go.Sh Go.RowKit
set_option linter.unusedVariables false
set_option linter.unusedSimpArgs false
set_option maxRecDepth 20000
set_option maxHeartbeats 1000000
theorem pair19_spec {c k r : Int} (hc : 1 ≤ c ∧ c ≤ 10) (hk : 1 ≤ k ∧ k ≤ 100) (hr : 1 ≤ r ∧ r ≤ 40) (w : World) :
    Calls Tryz.prog 10 #[.agg #[.int .i64 c, .int .i64 k, .int .i64 r]] w fun e w' => ∃ s sr ds rs X, PairW c k r (4 + r * k).toNat s sr ds rs X ∧ e = .returned (.tuple #[.agg (rwC s c.toNat c.toNat), .agg (rwC sr c.toNat c.toNat), .bool true]) ∧ Ow (star (dsK ds) (rsK rs)) [] w w' X := by
  refine (revetmentlaw19_pair_calls (R := fun v w' => ∃ s sr ds rs X, PairW c k r (4 + r * k).toNat s sr ds rs X ∧ v = .tuple #[.agg (rwC s c.toNat c.toNat), .agg (rwC sr c.toNat c.toNat), .bool true] ∧ Ow (star (dsK ds) (rsK rs)) [] w w' X) ?_).mono fun e w' ⟨v, he, s, sr, ds, rs, X, h1, h2, h3⟩ => ⟨s, sr, ds, rs, X, h1, by rw [he, h2], h3⟩
  unfold revetmentlaw19_pair
  have hrk : 1 ≤ r * k ∧ r * k ≤ 4000 := by
    obtain ⟨h1, h2⟩ := hr
    obtain ⟨h3, h4⟩ := hk
    refine ⟨?_, ?_⟩
    · have := Int.mul_le_mul h1 h3 (by omega) (by omega); omega
    · have := Int.mul_le_mul h2 h4 (by omega) (by omega); omega
  refine Alloc.t (T.nil w) fun k2 w1 h1 => Alloc.t h1 fun k4 w2 h2 => Alloc.t h2 fun k5 w3 h3 => ?_
  refine ⟨_, _, _, ⟨h3.ld (b := k2) (by repeat (first | exact List.Mem.head _ | refine List.Mem.tail _ ?_)) rfl, h3.ld (b := k2) (by repeat (first | exact List.Mem.head _ | refine List.Mem.tail _ ?_)) rfl, h3.ld (b := k2) (by repeat (first | exact List.Mem.head _ | refine List.Mem.tail _ ?_)) rfl⟩, ?_⟩
  refine Alloc.t h3 fun k6 w4 h4 => st5 h4 .head rfl rfl rfl rfl rfl fun w5 h5 => ?_
  refine ⟨_, _, _, ⟨h5.ld (b := k2) (by repeat (first | exact List.Mem.head _ | refine List.Mem.tail _ ?_)) rfl, h5.ld (b := k2) (by repeat (first | exact List.Mem.head _ | refine List.Mem.tail _ ?_)) rfl, h5.ld (b := k2) (by repeat (first | exact List.Mem.head _ | refine List.Mem.tail _ ?_)) rfl⟩, ?_⟩
  refine Alloc.t h5 fun k7 w6 h6 => st5 h6 .head rfl rfl rfl rfl rfl fun w7 h7 => ?_
  refine ⟨_, h7.ld (b := k2) (by repeat (first | exact List.Mem.head _ | refine List.Mem.tail _ ?_)) rfl, _, h7.ld (b := k2) (by repeat (first | exact List.Mem.head _ | refine List.Mem.tail _ ?_)) rfl, ?_⟩
  rw [wrap64 (r * k) (by omega) (by omega), wrap64 (4 + r * k) (by omega) (by omega)]
  obtain ⟨n, hn⟩ : ∃ n : Nat, (n : Int) = 4 + r * k := ⟨(4 + r * k).toNat, by omega⟩
  rw [← hn]
  have hnb : 1 ≤ n ∧ n ≤ 4096 := by omega
  have h8 : Ow (star (dsK []) (rsK [])) [] w w7 (prX c k r k2 k4 k5 k6 k7 0 none none none none 0 0 0 0 [] []) := by
    refine ⟨[], ⟨[], [], rfl, rfl, rfl⟩, ?_⟩
    exact T.nilRow (T.nilRow (T.nilRow (T.nilRow h7 3 1) 3 1) 62 1) 40 1
  refine ⟨fun vs w' => ∃ (i : Nat) (g1 g2 g3 g4 : Option Nat) (c1 c2 c3 c4 : Nat) (ds rs : List Od), vs = [.int .i64 (i : Int)] ∧ (i : Int) ≤ c ∧ ads ds = List.replicate i (some (AD.new n)) ∧ ads rs = List.replicate i (some (AD.new n)) ∧ Ow (star (dsK ds) (rsK rs)) [] w w' (prX c k r k2 k4 k5 k6 k7 i g1 g2 g3 g4 c1 c2 c3 c4 ds rs), fun vs _ => match vs with | [.int _ i] => (c - i).toNat | _ => 0, ⟨0, none, none, none, none, 0, 0, 0, 0, [], [], rfl, by omega, rfl, rfl, h8⟩, ?_⟩
  rintro vs w8 ⟨i, g1, g2, g3, g4, c1, c2, c3, c4, ds, rs, rfl, hi, hds, hrs, H⟩
  have hsnoc : ∀ (l : List Od) (q : Nat), ads l = List.replicate i (some (AD.new n)) → ads (l ++ [some (q, AD.new n)]) = List.replicate (i + 1) (some (AD.new n)) := fun l q hl => by
    rw [ads_snoc, hl, List.replicate_succ']; rfl
  have hrep : intsI (List.replicate i r) ++ [.int .i64 r] = intsI (List.replicate (i + 1) r) := by rw [intsI_snoc, List.replicate_succ']
  refine ⟨_, rfl, _, H.ld (b := k2) (by repeat (first | exact List.Mem.head _ | refine List.Mem.tail _ ?_)) rfl, dec_t fun hlt => ?_, dec_f fun hge => ?_⟩
  · refine ⟨fun w' => w'.cell? ⟨k6, 3, none⟩ = some (.slice (ptr g1) i c1), H.drew.ld (b := k6) (by repeat (first | exact List.Mem.head _ | refine List.Mem.tail _ ?_)) rfl, _, _, _, fun _ h => h, ?_⟩
    refine Ow.newD H.drew hnb fun q w9 H9 => ⟨_, rfl, (Ow.ld H9 (b := k6) (by repeat (first | exact List.Mem.head _ | refine List.Mem.tail _ ?_)) rfl), ?_⟩
    have H9 := Ow.addD H9
    refine push_owD (i := Tryz.t40) (z := .pointer none) (v := .pointer (some ⟨q, 0, none⟩)) (g := g1) (by kernel_rfl) (by kernel_rfl) (by kernel_rfl) (by kernel_rfl) (by kernel_rfl) (by kernel_rfl) H9 .head rfl (by omega) (fun b w' h' => Ow.ld h' (b := k6) (by repeat (first | exact List.Mem.head _ | refine List.Mem.tail _ ?_)) rfl) fun g1' c1' w10 H10 => ?_
    have eb1 : ptrsV (blks ds) ++ [.pointer (some ⟨q, 0, none⟩)] = ptrsV (blks (ds ++ [some (q, AD.new n)])) := (blks_snoc ds (some (q, AD.new n))).symm
    rw [eb1] at H10
    refine ⟨Ow.ld H10 (b := k6) (by repeat (first | exact List.Mem.head _ | refine List.Mem.tail _ ?_)) rfl, ?_⟩
    refine H10.st (c' := #[.int .i64 c, .int .i64 k, .int .i64 r, .slice (ptr (some g1')) (i + 1) c1', .slice (ptr g3) i c3]) (by repeat (first | exact Turn.head | apply Turn.tail)) (by simp) rfl rfl fun w11 H11 => ?_
    refine ⟨fun w' => w'.cell? ⟨k7, 3, none⟩ = some (.slice (ptr g2) i c2), H11.drew.ld (b := k7) (by repeat (first | exact List.Mem.head _ | refine List.Mem.tail _ ?_)) rfl, _, _, _, fun _ h => h, ?_⟩
    refine Ow.newR H11.drew hnb fun q2 w12 H12 => ⟨_, rfl, (Ow.ld H12 (b := k7) (by repeat (first | exact List.Mem.head _ | refine List.Mem.tail _ ?_)) rfl), ?_⟩
    have H12 := Ow.addR H12
    refine push_owD (i := Tryz.t62) (z := .pointer none) (v := .pointer (some ⟨q2, 0, none⟩)) (g := g2) (by kernel_rfl) (by kernel_rfl) (by kernel_rfl) (by kernel_rfl) (by kernel_rfl) (by kernel_rfl) H12 (.tail .head) rfl (by omega) (fun b w' h' => Ow.ld h' (b := k7) (by repeat (first | exact List.Mem.head _ | refine List.Mem.tail _ ?_)) rfl) fun g2' c2' w13 H13 => ?_
    have eb2 : ptrsV (blks rs) ++ [.pointer (some ⟨q2, 0, none⟩)] = ptrsV (blks (rs ++ [some (q2, AD.new n)])) := (blks_snoc rs (some (q2, AD.new n))).symm
    rw [eb2] at H13
    refine ⟨Ow.ld H13 (b := k7) (by repeat (first | exact List.Mem.head _ | refine List.Mem.tail _ ?_)) rfl, ?_⟩
    refine H13.st (c' := #[.int .i64 c, .int .i64 k, .int .i64 r, .slice (ptr (some g2')) (i + 1) c2', .slice (ptr g4) i c4]) (by repeat (first | exact Turn.head | apply Turn.tail)) (by simp) rfl rfl fun w14 H14 => ?_
    refine ⟨_, _, _, H14.ld (b := k6) (by repeat (first | exact List.Mem.head _ | refine List.Mem.tail _ ?_)) rfl, _, H14.ld (b := k2) (by repeat (first | exact List.Mem.head _ | refine List.Mem.tail _ ?_)) rfl, ?_⟩
    refine push_owN (i := Tryz.t3) (z := .int .i64 0) (v := .int .i64 r) (g := g3) (by kernel_rfl) (by kernel_rfl) (by kernel_rfl) (by kernel_rfl) (by kernel_rfl) (by kernel_rfl) H14 (.tail (.tail .head)) rfl (by omega) fun g3' c3' w15 H15 => ?_
    rw [hrep] at H15
    refine H15.st (c' := #[.int .i64 c, .int .i64 k, .int .i64 r, .slice (ptr (some g1')) (i + 1) c1', .slice (ptr (some g3')) (i + 1) c3']) (by repeat (first | exact Turn.head | apply Turn.tail)) (by simp) rfl rfl fun w16 H16 => ?_
    refine ⟨_, _, _, H16.ld (b := k7) (by repeat (first | exact List.Mem.head _ | refine List.Mem.tail _ ?_)) rfl, _, H16.ld (b := k2) (by repeat (first | exact List.Mem.head _ | refine List.Mem.tail _ ?_)) rfl, ?_⟩
    refine push_owN (i := Tryz.t3) (z := .int .i64 0) (v := .int .i64 r) (g := g4) (by kernel_rfl) (by kernel_rfl) (by kernel_rfl) (by kernel_rfl) (by kernel_rfl) (by kernel_rfl) H16 (.tail (.tail (.tail .head))) rfl (by omega) fun g4' c4' w17 H17 => ?_
    rw [hrep] at H17
    refine H17.st (c' := #[.int .i64 c, .int .i64 k, .int .i64 r, .slice (ptr (some g2')) (i + 1) c2', .slice (ptr (some g4')) (i + 1) c4']) (by repeat (first | exact Turn.head | apply Turn.tail)) (by simp) rfl rfl fun w18 H18 => ?_
    have hcl : w18.cell? (Addr.add ⟨g1', 0, none⟩ ((i : Int).toNat * 1)) = some (.pointer (some ⟨q, 0, none⟩)) := by
      have hq : (blks (ds ++ [some (q, AD.new n)]))[i]? = some (some q) := by
        have hld : ds.length = i := by have := congrArg List.length hds; simpa [ads] using this
        unfold blks
        rw [List.map_append, List.getElem?_append_right (by rw [List.length_map, hld]; exact Nat.le_refl _), List.length_map, hld, Nat.sub_self]; rfl
      obtain ⟨a0, ha0, hc0⟩ := (T.ptrs H18.under (g := some g1') (t := 40) (n := i + 1) (cap := c1') (ps := blks (ds ++ [some (q, AD.new n)])) (by repeat (first | exact List.Mem.head _ | refine List.Mem.tail _ ?_))).1.get hq
      cases ha0
      rw [Int.toNat_natCast]; exact hc0
    refine ⟨_, _, _, H18.ld (b := k6) (by repeat (first | exact List.Mem.head _ | refine List.Mem.tail _ ?_)) rfl, ⟨g1', 0, none⟩, rfl, by omega, by omega, _, hcl, no rfl ?_⟩
    refine ⟨⟨i + 1, some g1', some g2', some g3', some g4', c1', c2', c3', c4', ds ++ [some (q, AD.new n)], rs ++ [some (q2, AD.new n)], by rw [wrap64 _ (by omega) (by omega)]; rfl, by omega, hsnoc ds q hds, hsnoc rs q2 hrs, ?_⟩, ?_⟩
    · refine H18.perm ?_
      exact (Pick.perm (a := rowP 40 1 (some g1') (i + 1) c1' (ptrsV (blks (ds ++ [some (q, AD.new n)])))) (.tail (.tail (.tail .head)))).trans (List.Perm.cons _ ((Pick.perm (a := rowP 62 1 (some g2') (i + 1) c2' (ptrsV (blks (rs ++ [some (q2, AD.new n)])))) (.tail (.tail .head))).trans (List.Perm.cons _ (.swap _ _ _))))
    · show (c - IntKind.i64.wrap ((i : Int) + 1)).toNat < (c - (i : Int)).toNat
      rw [wrap64 _ (by omega) (by omega)]; omega
  · obtain ⟨m, hm⟩ : ∃ m : Nat, c = (m : Int) := ⟨c.toNat, by omega⟩
    obtain rfl : i = m := by omega
    obtain ⟨b1, rfl⟩ := rowP.pos (H.under.says (x := rowP 40 1 g1 i c1 (ptrsV (blks ds))) (by repeat (first | exact List.Mem.head _ | refine List.Mem.tail _ ?_))) (by omega)
    obtain ⟨b2, rfl⟩ := rowP.pos (H.under.says (x := rowP 62 1 g2 i c2 (ptrsV (blks rs))) (by repeat (first | exact List.Mem.head _ | refine List.Mem.tail _ ?_))) (by omega)
    obtain ⟨b3, rfl⟩ := rowP.pos (H.under.says (x := rowP 3 1 g3 i c3 (intsI (List.replicate i r))) (by repeat (first | exact List.Mem.head _ | refine List.Mem.tail _ ?_))) (by omega)
    obtain ⟨b4, rfl⟩ := rowP.pos (H.under.says (x := rowP 3 1 g4 i c4 (intsI (List.replicate i r))) (by repeat (first | exact List.Mem.head _ | refine List.Mem.tail _ ?_))) (by omega)
    have H2 := H.drew
    have sd : ∀ {h : Kd} {w' : World} {X : List A}, Ow h [] w w' X → blk k6 #[.int .i64 c, .int .i64 k, .int .i64 r, .slice (ptr (some b1)) i c1, .slice (ptr (some b3)) i c3] 30 ∈ X → blk k7 #[.int .i64 c, .int .i64 k, .int .i64 r, .slice (ptr (some b2)) i c2, .slice (ptr (some b4)) i c4] 33 ∈ X →
        cells5 w' k6 (.int .i64 c) (.int .i64 k) (.int .i64 r) (.slice (ptr (some b1)) i c1) (.slice (ptr (some b3)) i c3) ∧ cells5 w' k7 (.int .i64 c) (.int .i64 k) (.int .i64 r) (.slice (ptr (some b2)) i c2) (.slice (ptr (some b4)) i c4) := fun h' m1 m2 =>
      ⟨⟨h'.ld m1 rfl, h'.ld m1 rfl, h'.ld m1 rfl, h'.ld m1 rfl, h'.ld m1 rfl⟩, h'.ld m2 rfl, h'.ld m2 rfl, h'.ld m2 rfl, h'.ld m2 rfl, h'.ld m2 rfl⟩
    refine ⟨fun w' => cells5 w' k6 (.int .i64 c) (.int .i64 k) (.int .i64 r) (.slice (ptr (some b1)) i c1) (.slice (ptr (some b3)) i c3) ∧ cells5 w' k7 (.int .i64 c) (.int .i64 k) (.int .i64 r) (.slice (ptr (some b2)) i c2) (.slice (ptr (some b4)) i c4), sd H2 (by repeat (first | exact List.Mem.head _ | refine List.Mem.tail _ ?_)) (by repeat (first | exact List.Mem.head _ | refine List.Mem.tail _ ?_)), _, _, _, _, _, _, _, _, _, fun _ h => h.1, _, _, _, _, _, _, _, _, _, fun _ h => h.2, ?_⟩
    refine Ow.st5 H2 (X' := _) (v3 := .slice (ptr (some b1)) i c1) (v4 := .slice (ptr (some b3)) i c3) (by repeat (first | exact Turn.head | apply Turn.tail)) rfl rfl rfl rfl rfl fun w9 H9 => ⟨sd H9 (by repeat (first | exact List.Mem.head _ | refine List.Mem.tail _ ?_)) (by repeat (first | exact List.Mem.head _ | refine List.Mem.tail _ ?_)), ?_⟩
    refine Ow.st5 H9 (X' := _) (v3 := .slice (ptr (some b2)) i c2) (v4 := .slice (ptr (some b4)) i c4) (by repeat (first | exact Turn.head | apply Turn.tail)) rfl rfl rfl rfl rfl fun w10 H10 => ⟨sd H10 (by repeat (first | exact List.Mem.head _ | refine List.Mem.tail _ ?_)) (by repeat (first | exact List.Mem.head _ | refine List.Mem.tail _ ?_)), ?_⟩
    refine ⟨_, _, _, _, _, _, _, _, _, ⟨H10.ld (b := k4) (by repeat (first | exact List.Mem.head _ | refine List.Mem.tail _ ?_)) rfl, H10.ld (b := k4) (by repeat (first | exact List.Mem.head _ | refine List.Mem.tail _ ?_)) rfl, H10.ld (b := k4) (by repeat (first | exact List.Mem.head _ | refine List.Mem.tail _ ?_)) rfl, H10.ld (b := k4) (by repeat (first | exact List.Mem.head _ | refine List.Mem.tail _ ?_)) rfl, H10.ld (b := k4) (by repeat (first | exact List.Mem.head _ | refine List.Mem.tail _ ?_)) rfl⟩, ?_⟩
    refine ⟨_, _, _, _, _, _, _, _, _, ⟨H10.ld (b := k5) (by repeat (first | exact List.Mem.head _ | refine List.Mem.tail _ ?_)) rfl, H10.ld (b := k5) (by repeat (first | exact List.Mem.head _ | refine List.Mem.tail _ ?_)) rfl, H10.ld (b := k5) (by repeat (first | exact List.Mem.head _ | refine List.Mem.tail _ ?_)) rfl, H10.ld (b := k5) (by repeat (first | exact List.Mem.head _ | refine List.Mem.tail _ ?_)) rfl, H10.ld (b := k5) (by repeat (first | exact List.Mem.head _ | refine List.Mem.tail _ ?_)) rfl⟩, ?_⟩
    refine ⟨⟨c, k, r, some ⟨b1, 0, none⟩, c1, some ⟨b3, 0, none⟩, c3⟩, ⟨c, k, r, some ⟨b2, 0, none⟩, c2, some ⟨b4, 0, none⟩, c4⟩, ds, rs, _, ⟨⟨rfl, rfl, rfl⟩, ⟨rfl, rfl, rfl⟩, ⟨b1, b2, b3, b4, rfl, rfl, rfl, rfl, rfl⟩, ?_, ?_⟩, ?_, ?_⟩
    · rw [hds, hm, Int.toNat_natCast, Int.toNat_natCast]
    · rw [hrs, hm, Int.toNat_natCast, Int.toNat_natCast]
    · rw [hm, Int.toNat_natCast]; rfl
    · have e1 : c.toNat = i := by omega
      rw [e1]
      exact Ow.leave (X := [_, _, _, _]) H10
theorem geo19_spec {a b d : Int} (ha : 0 ≤ a ∧ a ≤ 255) (hb : 0 ≤ b ∧ b ≤ 255) (hd : 0 ≤ d ∧ d ≤ 255) (w : World) :
    Ret Tryz.prog 9 #[.int .u8 a, .int .u8 b, .int .u8 d] w (.agg #[.int .i64 (4 + a % 4), .int .i64 (1 + b % 3), .int .i64 (1 + d % 4)]) := by
  refine ret_of (revetmentlaw19_geometry_calls ?_)
  unfold revetmentlaw19_geometry
  have e : ∀ {x : Int} {n : Int}, 0 ≤ x ∧ x ≤ 255 → Int.tmod (IntKind.i64.wrap x) n = x % n := fun {x n} hx => by
    rw [wrap64 x (by omega) (by omega), Int.tmod_eq_emod_of_nonneg hx.1]
  rw [e ha, e hb, e hd, wrap64 (4 + a % 4) (by omega) (by omega), wrap64 (1 + b % 3) (by omega) (by omega), wrap64 (1 + d % 4) (by omega) (by omega)]
  refine Alloc.t (T.nil w) fun k1 w1 h1 => St.t h1 .head (by simp) rfl rfl fun w2 h2 => St.t h2 .head (by simp) rfl rfl fun w3 h3 => St.t h3 .head (by simp) rfl rfl fun w4 h4 => ?_
  exact ⟨_, _, _, ⟨h4.ld (b := k1) (by repeat (first | exact List.Mem.head _ | refine List.Mem.tail _ ?_)) rfl, h4.ld (b := k1) (by repeat (first | exact List.Mem.head _ | refine List.Mem.tail _ ?_)) rfl, h4.ld (b := k1) (by repeat (first | exact List.Mem.head _ | refine List.Mem.tail _ ?_)) rfl⟩, rfl, h4.chg.ext⟩
theorem full19_spec (s : ByteArray) (hs : s.size ≤ 9000000000000000000) (w : World) : Ret Tryz.prog 14 #[.string s] w (.string (fullB s)) := by
  refine ret_of (revetmentlaw19_full_calls ?_)
  unfold revetmentlaw19_full
  refine (blank_spec w).mono fun e w1 ⟨he, hx⟩ => ⟨_, he, by rw [zeroSec_size]; omega, _, _, slice_to (by kernel_rfl) (by omega) (by rw [ByteArray.size_append, zeroSec_size]; omega), rfl, hx⟩
/-- the pair's set, of drives that are new -/
theorem PairW.md {c k r : Int} {N : Nat} {s sr : RwS} {ds rs : List Od} {X : List A} (h : PairW c k r N s sr ds rs X) (hG : OkG c k r) (hN : (N : Int) = 4 + r * k) {w0 w : World} (H : Ow (star (dsK ds) (rsK rs)) [] w0 w X) :
    MdS s ds (List.replicate c.toNat r) N 0 (fun _ => 0) (fun _ _ => zeroSec) ∧ MdH ds N (fun _ => 0) (fun _ _ => zeroSec) ∧ ds.length = c.toNat ∧ Ow (seK s ds (List.replicate c.toNat r)) [] w0 w [] := by
  have h1 := SetHold.new h.ds
  have hl : ds.length = c.toNat := by have := congrArg List.length h.ds; simpa [ads] using this
  obtain ⟨g1, g2, g3⟩ := h.g
  obtain ⟨a1, a2, a3, a4, e1, e2, e3, e4, rfl⟩ := h.at1
  have hlb : (List.replicate c.toNat r).length = c.toNat := List.length_replicate
  have hc := hG.1
  refine ⟨⟨by rw [g1, g2, g3]; exact hG, by rw [hl, g1]; omega, by rw [hlb, g1]; omega, by rw [g2, g3]; exact hN, fun i hi => ?_⟩, fun i hi _ => h1 i hi, hl, se_shut (g1 := a1) (g2 := a3) e1 e2 ?_⟩
  · obtain ⟨p, a, hk, ha⟩ := h1 i hi
    exact .inl ⟨rfl, p, a, hk, ha.live 0⟩
  · unfold seR
    rw [hl, hlb]
    have H1 := H.fst
    have H2 : Ow (dsK ds) [] w0 w ([rowP 40 1 (some a1) c.toNat s.cd (ptrsV (blks ds)), rowP 3 1 (some a3) c.toNat s.cb (intsI (List.replicate c.toNat r))] ++ [rowP 62 1 (some a2) c.toNat sr.cd (ptrsV (blks rs)), rowP 3 1 (some a4) c.toNat sr.cb (intsI (List.replicate c.toNat r))]) := H1.perm (List.Perm.cons _ (.swap _ _ _))
    exact H2.leave
/-- how the laws of mend begin -/
theorem setup19 {a b d : Int} (ha : 0 ≤ a ∧ a ≤ 255) (hb : 0 ≤ b ∧ b ≤ 255) (hd : 0 ≤ d ∧ d ≤ 255) {w w1 : World} (hx : Ext w w1) {K : Nat → Nat → World → Prop} {Kf : World → Prop}
    (hK : ∀ (gc gk gr : Int) (N : Nat) (s : RwS) (ds : List Od) (k1 k2 : Nat) (w' : World), gc = 4 + a % 4 → gk = 1 + b % 3 → gr = 1 + d % 4 → (s.c = gc ∧ s.k = gk ∧ s.r = gr) → (N : Int) = 4 + gr * gk → 1 ≤ gr * gk → MdS s ds (List.replicate gc.toNat gr) N 0 (fun _ => 0) (fun _ _ => zeroSec) → MdH ds N (fun _ => 0) (fun _ _ => zeroSec) → ds.length = gc.toNat →
      Ow (seK s ds (List.replicate gc.toNat gr)) [] w w' [blk k2 (rwC s gc.toNat gc.toNat) 30, blk k1 #[.int .i64 gc, .int .i64 gk, .int .i64 gr] 25] → K k1 k2 w') :
    Calls Tryz.prog 9 #[.int .u8 a, .int .u8 b, .int .u8 d] w1 fun e w1 => ∃ n31_0 : Int, ∃ n31_1 : Int, ∃ n31_2 : Int, e = .returned (.agg #[.int .i64 n31_0, .int .i64 n31_1, .int .i64 n31_2]) ∧
      Alloc #[.int .i64 0, .int .i64 0, .int .i64 0] 25 w1 fun k13 w2 =>
      St ⟨k13, 0, none⟩ (.int .i64 n31_0) w2 fun w3 =>
      St ⟨k13, 1, none⟩ (.int .i64 n31_1) w3 fun w4 =>
      St ⟨k13, 2, none⟩ (.int .i64 n31_2) w4 fun w5 =>
      ∃ n33_0 : Int, ∃ n33_1 : Int, ∃ n33_2 : Int, (w5.cell? ⟨k13, 0, none⟩ = some (.int .i64 n33_0) ∧ w5.cell? ⟨k13, 1, none⟩ = some (.int .i64 n33_1) ∧ w5.cell? ⟨k13, 2, none⟩ = some (.int .i64 n33_2)) ∧
      Calls Tryz.prog 10 #[.agg #[.int .i64 n33_0, .int .i64 n33_1, .int .i64 n33_2]] w5 fun e_1 w6 => ∃ n34_0_0 : Int, ∃ n34_0_1 : Int, ∃ n34_0_2 : Int, ∃ (p34_0_3 : Option Addr) (l34_0_3 c34_0_3 : Nat), ∃ (p34_0_4 : Option Addr) (l34_0_4 c34_0_4 : Nat), ∃ n34_1_0 : Int, ∃ n34_1_1 : Int, ∃ n34_1_2 : Int, ∃ (p34_1_3 : Option Addr) (l34_1_3 c34_1_3 : Nat), ∃ (p34_1_4 : Option Addr) (l34_1_4 c34_1_4 : Nat), ∃ b34_2 : Bool,
        e_1 = .returned (.tuple #[.agg #[.int .i64 n34_0_0, .int .i64 n34_0_1, .int .i64 n34_0_2, .slice p34_0_3 l34_0_3 c34_0_3, .slice p34_0_4 l34_0_4 c34_0_4], .agg #[.int .i64 n34_1_0, .int .i64 n34_1_1, .int .i64 n34_1_2, .slice p34_1_3 l34_1_3 c34_1_3, .slice p34_1_4 l34_1_4 c34_1_4], .bool b34_2]) ∧
      Alloc #[.int .i64 0, .int .i64 0, .int .i64 0, .slice none 0 0, .slice none 0 0] 30 w6 fun k14 w7 =>
      Alloc #[.int .i64 0, .int .i64 0, .int .i64 0, .slice none 0 0, .slice none 0 0] 33 w7 fun k15 w8 =>
      St ⟨k14, 0, none⟩ (.int .i64 n34_0_0) w8 fun w9 => St ⟨k14, 1, none⟩ (.int .i64 n34_0_1) w9 fun w10 => St ⟨k14, 2, none⟩ (.int .i64 n34_0_2) w10 fun w11 => St ⟨k14, 3, none⟩ (.slice p34_0_3 l34_0_3 c34_0_3) w11 fun w12 => St ⟨k14, 4, none⟩ (.slice p34_0_4 l34_0_4 c34_0_4) w12 fun w13 =>
      St ⟨k15, 0, none⟩ (.int .i64 n34_1_0) w13 fun w14 => St ⟨k15, 1, none⟩ (.int .i64 n34_1_1) w14 fun w15 => St ⟨k15, 2, none⟩ (.int .i64 n34_1_2) w15 fun w16 => St ⟨k15, 3, none⟩ (.slice p34_1_3 l34_1_3 c34_1_3) w16 fun w17 => St ⟨k15, 4, none⟩ (.slice p34_1_4 l34_1_4 c34_1_4) w17 fun w18 => ((!b34_2) = true → Kf w18) ∧ ((!b34_2) = false → K k13 k14 w18) := by
  refine (geo19_spec ha hb hd w1).mono fun e w1 ⟨he1, hx1⟩ => ⟨_, _, _, he1, ?_⟩
  have hG : OkG (4 + a % 4) (1 + b % 3) (1 + d % 4) := by unfold OkG; omega
  have hcB : 1 ≤ 4 + a % 4 ∧ 4 + a % 4 ≤ 10 := by omega
  have hkB : 1 ≤ 1 + b % 3 ∧ 1 + b % 3 ≤ 100 := by omega
  have hrB : 1 ≤ 1 + d % 4 ∧ 1 + d % 4 ≤ 40 := by omega
  generalize e1 : 4 + a % 4 = gc at hG hcB
  generalize e2 : 1 + b % 3 = gk at hG hkB
  generalize e3 : 1 + d % 4 = gr at hG hrB
  refine Alloc.t ((T.nil w).quiet (hx.trans hx1)) fun k13 w2 h2 => St.t h2 .head (by simp) rfl rfl fun w3 h3 => St.t h3 .head (by simp) rfl rfl fun w4 h4 => St.t h4 .head (by simp) rfl rfl fun w5 h5 => ?_
  have h5 : T [] w w5 [blk k13 #[.int .i64 gc, .int .i64 gk, .int .i64 gr] 25] := h5
  refine ⟨_, _, _, ⟨h5.ld (b := k13) (by repeat (first | exact List.Mem.head _ | refine List.Mem.tail _ ?_)) rfl, h5.ld (b := k13) (by repeat (first | exact List.Mem.head _ | refine List.Mem.tail _ ?_)) rfl, h5.ld (b := k13) (by repeat (first | exact List.Mem.head _ | refine List.Mem.tail _ ?_)) rfl⟩, ?_⟩
  refine (pair19_spec hcB hkB hrB w5).mono fun e w6 ⟨s, sr, ds, rs, X, hP, he6, H6⟩ => ⟨_, _, _, _, _, _, _, _, _, _, _, _, _, _, _, _, _, _, _, he6, ?_⟩
  have hpos : 1 ≤ gr * gk := by have := Int.mul_le_mul hrB.1 hkB.1 (by omega) (by omega); omega
  obtain ⟨hS, hH, hl, H6⟩ := hP.md hG (by show ((4 + gr * gk).toNat : Int) = _; omega) H6
  have H6 : Ow (seK s ds (List.replicate gc.toNat gr)) [] w w6 [blk k13 #[.int .i64 gc, .int .i64 gk, .int .i64 gr] 25] := Ow.over H6 h5
  refine H6.alloc fun k14 w7 H7 => H7.alloc fun k15 w8 H8 => ?_
  refine Ow.st5 H8 (v3 := .slice s.pd gc.toNat s.cd) (v4 := .slice s.pb gc.toNat s.cb) (by repeat (first | exact Turn.head | apply Turn.tail)) rfl rfl rfl rfl rfl fun w9 H9 => ?_
  refine Ow.st5 H9 (v3 := .slice sr.pd gc.toNat sr.cd) (v4 := .slice sr.pb gc.toNat sr.cb) (by repeat (first | exact Turn.head | apply Turn.tail)) rfl rfl rfl rfl rfl fun w10 H10 => no rfl ?_
  exact hK gc gk gr _ s ds k13 k14 w10 e1.symm e2.symm e3.symm hP.g (by show ((4 + gr * gk).toNat : Int) = _; omega) hpos hS hH hl H10.dropX
end Go.Proofs.YtedbbdeeofdepaaGreatDoor
end
section
/-! row: the column of a role, and back. -/
namespace Go.Proofs.YtedbbdeeofdepaaGreatDoor
open Go.Sh Go.RowKit
set_option linter.unusedVariables false
set_option linter.unusedSimpArgs false
theorem role_colR {s : RwS} (hG : OkG s.c s.k s.r) {row role col : Int} (hr : 0 ≤ row ∧ row < s.r) (h0 : 0 ≤ role ∧ role < s.c) (hc : 0 ≤ col ∧ col < s.c) : roleG s.c s.k s.r row col = role ↔ col = colR s row role := by
  have hf : 0 ≤ firstG s.c row ∧ firstG s.c row < s.c := ⟨Int.emod_nonneg _ (by have := hG.1; omega), Int.emod_lt_of_pos _ (by have := hG.1; omega)⟩
  rw [role_v (inG_of hG hr hc), colR_v hG hr h0]
  split <;> (try split) <;> (try split) <;> omega
end Go.Proofs.YtedbbdeeofdepaaGreatDoor
end
section
/-! mend: Resync; what is lost; sectors that are changed. -/
namespace Go.Proofs.YtedbbdeeofdepaaGreatDoor
open Go.Sh Go.RowKit
set_option linter.unusedVariables false
set_option linter.unusedSimpArgs false
set_option maxRecDepth 20000
set_option maxHeartbeats 1000000
theorem mdD_zero {s : RwS} {ds : List Od} {bu : List Int} {N M : Nat} {K : Nat → Nat} {f : Nat → Nat → ByteArray} {row : Int} {c kk q : Nat} {G : Nat → List Txt} (h : MdS s ds bu N M K f) : MdD s bu N M K row c kk q (fun m => rwT s f row m c) G 0 ds := ⟨f, h, fun j hj => by rw [if_neg (by omega)]⟩
theorem mdD_end {s : RwS} {d : List Od} {bu : List Int} {N M : Nat} {K : Nat → Nat} {row : Int} {c kk q : Nat} {L G : Nat → List Txt} (h : MdD s bu N M K row c kk q L G kk d) : ∃ f, MdS s (d.map flushO) bu N (M + q * kk) K f ∧ MdH (d.map flushO) N K f ∧ ∀ j : Nat, j < kk → rwT s f row j c = G j := by
  obtain ⟨f, h1, h2⟩ := h
  exact ⟨f, h1.flush.1, h1.flush.2, fun j hj => by rw [h2 j hj, if_pos hj]⟩
theorem makeF_two {L : List Txt} {c : Nat} (hL : L.length = c) (h2 : 2 ≤ c) : (L.set (c - 2) ((makeF (L.take (c - 2))).getD (c - 2) [])).set (c - 1) ((makeF (L.take (c - 2))).getD (c - 1) []) = makeF (L.take (c - 2)) := by
  have hl : (makeF (L.take (c - 2))).length = c := by rw [makeF_len, List.length_take]; omega
  refine List.ext_getElem (by simp [hl, hL]) fun i h1 h2' => ?_
  have hi : i < c := by omega
  have hg : ∀ {A : List Txt} (h : i < A.length), A[i] = A.getD i [] := fun {A} h => by rw [List.getD_eq_getElem?_getD, List.getElem?_eq_getElem h]; rfl
  rw [List.getElem_set, List.getElem_set]
  split
  · rename_i e; subst e; exact (hg h2').symm
  · split
    · rename_i e; subst e; exact (hg h2').symm
    · rw [hg h2', hg (by omega), makeF_get, List.length_take, if_pos (by omega), take_get _ _ _ (by omega)]
/-- Resync, where nothing is lost -/
theorem resync19_spec {s : RwS} {bu : List Int} {row : Int} {w0 w : World} {X : List A} {N M kk c : Nat} {K : Nat → Nat} {L : Nat → List Txt} (hkk : s.k = (kk : Int)) (hc : s.c = (c : Int)) (hMB : M + 2 * kk ≤ 1000000)
    (hK : ∀ i, i < c → K i = 0) (hb : ∀ i, i < c → row < bu.getD i 0) (hrow : 0 ≤ row ∧ row < s.r) (hL : ∀ m, m < kk → (L m).length = c ∧ AllLen (L m) 64)
    {ds : List Od} (h0 : MdD s bu N M K row c kk 2 L (fun m => makeF ((L m).take (c - 2))) 0 ds) (H : Ow (seK s ds bu) [] w0 w X) :
    Calls Tryz.prog 18 #[.agg (rwC s ds.length bu.length), .int .i64 row] w fun e w' => e = .returned (.int .i64 0) ∧ Ow (soK s bu fun ds' => ∃ d, ds' = d.map flushO ∧ MdD s bu N M K row c kk 2 L (fun m => makeF ((L m).take (c - 2))) kk d) [] w0 w' X := by
  generalize hGG : (fun m => makeF ((L m).take (c - 2))) = G at h0
  refine (mend_Resync_calls (R := fun v w' => v = .int .i64 0 ∧ Ow (soK s bu fun ds' => ∃ d, ds' = d.map flushO ∧ MdD s bu N M K row c kk 2 L G kk d) [] w0 w' X) ?_).mono fun e w' ⟨v, he, hv, h⟩ => ⟨by rw [he, hv], h⟩
  unfold mend_Resync
  have hlen : ∀ {m ds'}, MdD s bu N M K row c kk 2 L G m ds' → ds'.length = c := fun ⟨f, h, _⟩ => by have := h.len; omega
  have hn := hlen h0
  have hok : OkG s.c s.k s.r := by obtain ⟨f, h, _⟩ := h0; exact h.ok
  have hkB : kk ≤ 1000 ∧ 4 ≤ c ∧ c ≤ 10 := by unfold OkG at hok; omega
  refine Ow.alloc H fun k2 w1 H1 => Ow.alloc H1 fun k3 w2 H2 => ?_
  have H2 : Ow (seK s ds bu) [] w0 w2.drew (blk k3 #[.int .i64 row] 3 :: blk k2 (rwC s ds.length bu.length) 30 :: X) := H2.drew
  have c2 : ∀ {h : Kd} {w' : World} {Y : List A}, Ow h [] w0 w' Y → blk k2 (rwC s ds.length bu.length) 30 ∈ Y → ∀ i v, (rwC s ds.length bu.length)[i]? = some v → w'.cell? ⟨k2, i, none⟩ = some v := fun h' hm i v hv => h'.ld hm hv
  generalize hB : blk k3 #[.int .i64 row] 3 :: blk k2 (rwC s ds.length bu.length) 30 :: X = B at H2
  have H2 := so_shut (D := MdD s bu N M K row c kk 2 L G 0) h0 H2
  have m2 : blk k2 (rwC s ds.length bu.length) 30 ∈ B := by rw [← hB]; exact (by repeat (first | exact List.Mem.head _ | refine List.Mem.tail _ ?_))
  have m3 : blk k3 #[.int .i64 row] 3 ∈ B := by rw [← hB]; exact (by repeat (first | exact List.Mem.head _ | refine List.Mem.tail _ ?_))
  refine ⟨fun w' => ∃ h, Ow h [] w0 w' B, ⟨_, H2⟩, _, _, _, _, _, _, _, _, _, fun w' ⟨h, h'⟩ => ⟨c2 h' m2 0 _ rfl, c2 h' m2 1 _ rfl, c2 h' m2 2 _ rfl, c2 h' m2 3 _ rfl, c2 h' m2 4 _ rfl⟩, _, _, _, _, _, _, _, _, _, fun w' ⟨h, h'⟩ => ⟨c2 h' m2 0 _ rfl, c2 h' m2 1 _ rfl, c2 h' m2 2 _ rfl, c2 h' m2 3 _ rfl, c2 h' m2 4 _ rfl⟩, _, fun w' ⟨h, h'⟩ => h'.ld m3 rfl, ?_⟩
  have hD : ∀ m ds', m ≤ kk → MdD s bu N M K row c kk 2 L G m ds' → ds'.length = ds.length ∧ RMay s ds' bu ∧ FewL ds' 1000000 := fun m ds' hm h => by
    refine ⟨by rw [hlen h, hn], ?_⟩
    obtain ⟨f, h, _⟩ := h
    exact ⟨h.may, h.few.mono (by omega)⟩
  refine (whole_all (s := s) (bu := bu) (kk := kk) (n := ds.length) (D := MdD s bu N M K row c kk 2 L G) (X := fun _ => B) rfl rfl hkk H2 hD hrow (fun m ds' hm hDm => ?_)).mono fun e w5 ⟨he5, H5⟩ => ⟨_, he5, ⟨_, H5⟩, ?_⟩
  · obtain ⟨hn', hM', hF'⟩ := hD m ds' (by omega) hDm
    obtain ⟨f, hMd, hrw⟩ := hDm
    obtain ⟨hLc, hLa⟩ := hL m hm
    have hO : OkM (L m) [] := ok_all (by omega) (by omega) hLa (by omega)
    have hR : readR s ds' bu row m = .ok (L m, []) := by
      rw [hMd.readAll hrow (off := (m : Int)) (by omega) hc hK hb, hrw m hm, if_neg (by omega)]
    refine ⟨L m, hR, fun W Γ g cp hW => CallF.func (by kernel_rfl) ?_⟩
    refine (mend_Resync_1_calls (R := fun v w' => v = .int .i64 0 ∧ Ow (soK s bu (MdD s bu N M K row c kk 2 L G (m + 1))) [] w0 w' (Γ ++ B)) ?_).mono fun e w' ⟨v, he, hv, h⟩ => ⟨by rw [he, hv], h⟩
    unfold mend_Resync_1
    have hs := T.strs hW.under (g := g) (L := L m) (n := (L m).length) (cap := cp) List.mem_cons_self
    have hcap : (L m).length ≤ cp := (hW.under.says (x := rowP 9 1 g (L m).length cp (txts (L m))) List.mem_cons_self).2.1
    have hS : Short (L m) := (read_short (se_w hW) hR).1
    refine (parityT_spec hS hcap hs.1 hO).mono fun e w1 ⟨b, cap, he, hT⟩ => ⟨_, _, _, _, he, ?_⟩
    have hGm : makeF ((L m).take ((L m).length - 2)) = G m := by rw [← hGG, hLc]
    rw [hGm] at hT
    have hW1 := Ow.new hW.dropX hT
    have hGa : AllLen (G m) 64 ∧ (G m).length = c := by
      rw [← hGm, hLc]
      have ha : AllLen ((L m).take (c - 2)) 64 := fun j hj => by
        rw [List.length_take] at hj
        rw [take_get _ _ _ (by omega)]
        exact hLa j (by omega)
      have := make_good ha (by rw [List.length_take]; omega) (by rw [List.length_take]; omega)
      exact ⟨this.all, by rw [makeF_len, List.length_take]; omega⟩
    have hw2 : IntKind.i64.wrap (((L m).length : Int) - 2) = ((c - 2 : Nat) : Int) := by rw [hLc, wrap64 _ (by omega) (by omega)]; omega
    rw [hw2, hLc]
    rw [hLc] at hW1
    generalize hst : (fun j : Nat => if j = 0 then L m else if j = 1 then (L m).set (c - 2) ((G m).getD (c - 2) []) else ((L m).set (c - 2) ((G m).getD (c - 2) [])).set (c - 1) ((G m).getD (c - 1) [])) = st
    have hI0 : (fun t : Nat => if t < m then G t else if t = m then st 0 else L t) = fun t => if t < m then G t else L t := by
      funext t
      rw [← hst]
      by_cases e1 : t < m
      · rw [if_pos e1, if_pos e1]
      · rw [if_neg e1, if_neg e1]
        by_cases e2 : t = m
        · subst e2; rw [if_pos rfl]; rfl
        · rw [if_neg e2]
    refine ⟨fun vs w' => ∃ (j : Nat) (du : List Od) (fu : Nat → Nat → ByteArray), vs = [.int .i64 0, .int .i64 ((c - 2 + j : Nat) : Int)] ∧ j ≤ 2 ∧ MdS s du bu N (M + 2 * m + j) K fu ∧ (∀ t : Nat, t < kk → rwT s fu row t c = if t < m then G t else if t = m then st j else L t) ∧ Ow (seK s du bu) [] w0 w' ([rowP 9 1 (some b) c cap (txts (G m))] ++ (Γ ++ B)), fun vs _ => match vs with | [_, .int _ n] => ((c : Int) - n).toNat | _ => 0, ⟨0, ds', f, rfl, by omega, hMd, fun t ht => ?_, hW1⟩, ?_⟩
    · rw [hrw t ht]
      exact (congrFun hI0 t).symm
    rintro vs w2 ⟨j, du, fu, rfl, hj, hMu, hru, hWu⟩
    refine ⟨_, _, rfl, dec_t fun hlt => yes rfl ?_, dec_f fun hge => ?_⟩
    · have hlu : du.length = c := by have := hMu.len; omega
      have hcl : ∀ {h : Kd} {w' : World}, Ow h [] w0 w' ([rowP 9 1 (some b) c cap (txts (G m))] ++ (Γ ++ B)) → ∃ a, ptr (some b) = some a ∧ w'.cell? (a.add ((c - 2 + j) * 1)) = some (.string (strB ((G m).getD (c - 2 + j) []))) := fun h' =>
        (T.strs h'.under (g := some b) (L := G m) (n := c) (cap := cap) (by repeat (first | exact List.Mem.head _ | refine List.Mem.tail _ ?_))).1.get (n := c - 2 + j) (by omega)
      have hWd := hWu.drew
      obtain ⟨a0, ha0, _⟩ := hcl hWd
      have mG : ∀ {x : A}, x ∈ B → x ∈ [rowP 9 1 (some b) c cap (txts (G m))] ++ (Γ ++ B) := fun h => List.mem_append_right _ (List.mem_append_right _ h)
      have cA : ∀ {h : Kd} {w' : World}, Ow h [] w0 w' ([rowP 9 1 (some b) c cap (txts (G m))] ++ (Γ ++ B)) → ∀ i v, (rwC s ds.length bu.length)[0 + i]? = some v → w'.cell? (Addr.add ⟨k2, 0, none⟩ i) = some v := fun h' i v hv => by
        rw [addr_add]
        exact h'.ld (mG m2) hv
      refine ⟨fun w' => ∃ h, Ow h [] w0 w' ([rowP 9 1 (some b) c cap (txts (G m))] ++ (Γ ++ B)), ⟨_, hWd⟩, _, _, _, _, _, _, _, _, _, fun w' ⟨h, h'⟩ => ⟨c2 h' (mG m2) 0 _ rfl, cA h' 1 _ rfl, cA h' 2 _ rfl, cA h' 3 _ rfl, cA h' 4 _ rfl⟩, _, fun w' ⟨h, h'⟩ => h'.ld (mG m3) rfl, a0, ha0, by omega, by omega, strB ((G m).getD (c - 2 + j) []), fun w' ⟨h, h'⟩ => ?_, ?_⟩
      · obtain ⟨a1, ha1, hc1⟩ := hcl h'
        rw [ha0] at ha1; cases ha1
        rw [Int.toNat_natCast]
        exact hc1
      have hsz : (strB ((G m).getD (c - 2 + j) [])).size = 64 := by rw [strB_size]; exact hGa.1 _ (by omega)
      have hcol := colR_nat hok hrow (role := ((c - 2 + j : Nat) : Int)) (by omega)
      obtain ⟨hwE, hMd'⟩ := hMu.write hrow (off := (m : Int)) (by omega) (role := ((c - 2 + j : Nat) : Int)) (by omega) rfl (hK _ (by omega)) hsz
      have hpt := put19_spec hWd (by omega) (hMu.few.mono (by omega)) row m ((c - 2 + j : Nat) : Int) (strB ((G m).getD (c - 2 + j) []))
      rw [hwE, if_neg (by decide), show du.length = ds.length by omega] at hpt
      refine hpt.mono fun e w6 ⟨he6, H6⟩ => ⟨_, he6, ⟨_, H6⟩, ⟨j + 1, _, _, ?_, by omega, hMd', fun t ht => ?_, H6⟩, ?_⟩
      · rw [wrap64 _ (by omega) (by omega)]; rfl
      · rw [rwT_up hok hrow (by omega) (by omega) hc (by omega)]
        by_cases e : (t : Int) = (m : Int)
        · obtain rfl : t = m := by omega
          rw [if_pos rfl, if_neg (by omega), if_pos rfl, hru t ht, if_neg (by omega), if_pos rfl, ← hst]
          rcases (by omega : j = 0 ∨ j = 1) with rfl | rfl
          · rfl
          · show ((L t).set (c - 2) ((G t).getD (c - 2) [])).set (c - 2 + 1) ((G t).getD (c - 2 + 1) []) = ((L t).set (c - 2) ((G t).getD (c - 2) [])).set (c - 1) ((G t).getD (c - 1) [])
            rw [show c - 2 + 1 = c - 1 by omega]
        · rw [if_neg e, hru t ht]
          have e2 : ¬ (t = m) := by omega
          simp only [e2, if_false]
      · show ((c : Int) - IntKind.i64.wrap (((c - 2 + j : Nat) : Int) + 1)).toNat < ((c : Int) - ((c - 2 + j : Nat) : Int)).toNat
        rw [wrap64 _ (by omega) (by omega)]; omega
    · obtain rfl : j = 2 := by omega
      refine ⟨rfl, so_shut ⟨fu, hMu, fun t ht => ?_⟩ hWu.dropX⟩
      rw [hru t ht]
      rcases Nat.lt_trichotomy t m with h | h | h
      · rw [if_pos h, if_pos (by omega)]
      · subst h
        rw [if_neg (by omega), if_pos rfl, if_pos (by omega), ← hst, ← hGG]
        exact makeF_two hLc (by omega)
      · rw [if_neg (by omega), if_neg (by omega), if_neg (by omega)]
  · obtain ⟨d, hDk, H5⟩ := so_open H5
    obtain ⟨hn', hM', hF'⟩ := hD kk d (Nat.le_refl _) hDk
    have hdn := done19_ok H5 (by omega) hF' hM'
    have hno : d.any offO = false := by
      obtain ⟨f, hMd, _⟩ := hDk
      exact hMd.no42 fun i hi => by rw [hK i (by have := hMd.len; omega)]; decide
    rw [hn', hno] at hdn
    refine hdn.mono fun e w6 ⟨he6, H6⟩ => ⟨_, he6, ⟨_, H6⟩, rfl, ?_⟩
    rw [← hB] at H6
    exact so_shut ⟨d, rfl, hDk⟩ H6.dropX.dropX
end Go.Proofs.YtedbbdeeofdepaaGreatDoor
end
section
/-! mend: Rebuild of good rows; errors; sectors that are changed. -/
namespace Go.Proofs.YtedbbdeeofdepaaGreatDoor
open Go.Sh Go.RowKit
set_option linter.unusedVariables false
set_option linter.unusedSimpArgs false
set_option maxRecDepth 20000
set_option maxHeartbeats 1000000
/-- the role of a column -/
theorem role_of {s : RwS} (hG : OkG s.c s.k s.r) {row : Int} (hr : 0 ≤ row ∧ row < s.r) {c g : Nat} (hc : s.c = (c : Int)) (hg : g < c) : ∃ r : Nat, r < c ∧ (colR s row r).toNat = g ∧ roleG s.c s.k s.r row g = (r : Int) := by
  obtain ⟨r, h1, h2⟩ := colR_surj hG hr (g := g) (by omega)
  refine ⟨r, by omega, h2, (role_colR hG hr (role := (r : Int)) (col := (g : Int)) (by omega) (by omega)).2 ?_⟩
  have := (colR_nat hG hr (role := (r : Int)) (by omega)).1
  omega
theorem col_role {s : RwS} (hG : OkG s.c s.k s.r) {row : Int} (hr : 0 ≤ row ∧ row < s.r) {c i j : Nat} (hc : s.c = (c : Int)) (hi : i < c) (hj : j < c) (h : (colR s row i).toNat = (colR s row j).toNat) : i = j := by
  have h1 := colR_nat hG hr (role := (i : Int)) (by omega)
  have h2 := colR_nat hG hr (role := (j : Int)) (by omega)
  have := colR_inj hG hr (a := (i : Int)) (b := (j : Int)) (by omega) (by omega) (by omega)
  omega
theorem app_ok {Lg X : List Txt} {c : Nat} {l : List Int} (hL : GoodL Lg 64) (hc : Lg.length = c) (hX : X.length = c) (hn : l.Nodup) (hb : ∀ x ∈ l, 0 ≤ x ∧ x < (c : Int)) (hs : ∀ i, i < c → (i : Int) ∉ l → X.getD i [] = Lg.getD i []) : OkM X l ∧ (l.length ≤ 2 → fillF X l = Lg) := by
  have h4 := hL.n4
  have h10 := hL.n10
  have hok : OkM X l := ⟨by omega, by omega, fun x hx => by rw [hX]; exact hb x hx, hn, 64, by omega, fun j hj hjn => by rw [hs j (by omega) hjn]; exact hL.all j (by omega)⟩
  exact ⟨hok, fun h2 => fill_back (m := 64) hok h2 (by omega) hL.all (fun i hi hin => hs i (by omega) hin) fun j => hL.filled _ j⟩
theorem appR_mem {l : List Int} {r x : Int} : x ∈ appR l r ↔ x ∈ l ∨ x = r := by
  unfold appR
  split
  · rename_i h; exact ⟨.inl, fun hh => hh.elim id fun e => e ▸ h⟩
  · simp
theorem appR_nodup {l : List Int} (h : l.Nodup) (r : Int) : (appR l r).Nodup := by
  unfold appR
  split
  · exact h
  · rename_i hn
    rw [List.nodup_append]
    exact ⟨h, by simp, fun a ha b hb => by simp at hb; subst hb; intro e; subst e; exact hn ha⟩
theorem appR_len (l : List Int) (r : Int) : (appR l r).length ≤ l.length + 1 := by
  unfold appR
  split
  · omega
  · simp
section
variable {s : RwS} {ds : List Od} {bu : List Int} {row : Int} {w0 w : World} {X : List A} {N M kk c g r : Nat} {K : Nat → Nat} {f : Nat → Nat → ByteArray} {Lg : Nat → List Txt}
/-- what is read of a row that is good but for what is lost, and for one role -/
theorem read_good (hMd : MdS s ds bu N M K f) (hc : s.c = (c : Int)) (hK2 : ∀ i, i < c → K i = 2 → bu.getD i 0 ≤ row) (hrow : 0 ≤ row ∧ row < s.r) (hr : r < c) {m : Nat} (hm : (m : Int) < s.k) {L : List Txt}
    (hLg : GoodL L 64 ∧ L.length = c ∧ ∀ i, i < c → i ≠ r → lostK s bu K row i = false → (rwT s f row m c).getD i [] = L.getD i []) :
    ∃ Y, readR s ds bu row m = .ok (Y, misL (lostK s bu K row) c) ∧ OkM Y (appR (misL (lostK s bu K row) c) r) ∧ ((appR (misL (lostK s bu K row) c) r).length ≤ 2 → fillF Y (appR (misL (lostK s bu K row) c) r) = L) := by
  refine ⟨_, hMd.read hrow (off := (m : Int)) (by omega) hc hK2, ?_⟩
  refine app_ok hLg.1 hLg.2.1 (by simp) (appR_nodup (misL_nodup _ _) _) (fun x hx => ?_) fun i hi hin => ?_
  · rcases appR_mem.1 hx with h | h
    · obtain ⟨i, rfl, h1, _⟩ := misL_mem.1 h
      omega
    · omega
  · have h1 : i ≠ r := fun e => hin (appR_mem.2 (.inr (by omega)))
    have h2 : lostK s bu K row i = false := by
      cases hl : lostK s bu K row i with
      | true => exact absurd (appR_mem.2 (.inl (misL_mem.2 ⟨i, rfl, hi, hl⟩))) hin
      | false => rfl
    rw [List.getD_eq_getElem?_getD, List.getElem?_map, List.getElem?_range hi]
    show (if lostK s bu K row i = true then [] else (rwT s f row m c).getD i []) = _
    rw [h2]
    exact hLg.2.2 i hi h1 h2
/-- a good row's column is rebuilt -/
theorem rebuild_good (hkk : s.k = (kk : Int)) (hc : s.c = (c : Int)) (hMB : M + kk ≤ 1000000) (hK2 : ∀ i, i < c → K i ≠ 2) (hrow : 0 ≤ row ∧ row < s.r) (hg : g < c) (hKg : K g = 0) (hr : r < c) (hrg : (colR s row r).toNat = g) (hro : roleG s.c s.k s.r row g = (r : Int))
    (hLg : ∀ m, m < kk → GoodL (Lg m) 64 ∧ (Lg m).length = c ∧ ∀ i, i < c → i ≠ r → lostK s bu K row i = false → (rwT s f row m c).getD i [] = (Lg m).getD i [])
    (hMd : MdS s ds bu N M K f) (H : Ow (seK s ds bu) [] w0 w X) (h2 : (appR (misL (lostK s bu K row) c) r).length ≤ 2) :
    Calls Tryz.prog 22 #[.agg (rwC s ds.length bu.length), .int .i64 row, .int .i64 (g : Int)] w fun e w' => e = .returned (.int .i64 0) ∧ Ow (soK s bu fun ds' => ∃ f', MdS s ds' bu N (M + kk) K f' ∧ MdH ds' N K f' ∧ (∀ m, m < kk → rwT s f' row m c = (rwT s f row m c).set r ((Lg m).getD r [])) ∧ (∀ i j, i ≠ g → f' i j = f i j) ∧ blks ds' = blks ds) [] w0 w' X := by
  have hok := hMd.ok
  have hkB : kk ≤ 1000 ∧ c ≤ 10 := by unfold OkG at hok; omega
  refine rebuild_spec (s := s) (bu := bu) (kk := kk) (n := ds.length) (N := kk) (r := (r : Int)) (eZ := 0)
    (D := fun m ds' => ∃ f', MdS s ds' bu N (M + m) K f' ∧ (∀ t, t < kk → rwT s f' row t c = if t < m then (rwT s f row t c).set r ((Lg t).getD r []) else rwT s f row t c) ∧ (∀ i j, i ≠ g → f' i j = f i j) ∧ blks ds' = blks ds)
    hkk (Nat.le_refl _) (so_shut ⟨f, hMd, fun t ht => by rw [if_neg (by omega)], fun i j _ => rfl, rfl⟩ H) ?_ hrow (by omega) ?_ hro (by omega) ?_ (fun h => by omega) ?_
  · rintro m ds' hm ⟨f', h1, _⟩
    exact ⟨by have := h1.len; have := hMd.len; omega, h1.may, h1.few.mono (by omega)⟩
  · rintro ds' ⟨f', h1, _⟩
    obtain ⟨p, a, hk, hl⟩ := h1.live (i := g) (by have := h1.len; omega) hKg
    exact ⟨p, a, by rw [Int.toNat_natCast]; exact hk, hl.on.dead⟩
  · rintro m ds' hm ⟨f', h1, h3, h4, h5⟩
    have hrwm : rwT s f' row m c = rwT s f row m c := by rw [h3 m hm, if_neg (by omega)]
    obtain ⟨Y, hR, hO, hfil⟩ := read_good h1 hc (fun i hi e => absurd e (hK2 i hi)) hrow hr (m := m) (by omega) (L := Lg m) (by rw [hrwm]; exact hLg m hm)
    have h64 : (strB ((Lg m).getD r [])).size = 64 := by rw [strB_size]; exact (hLg m hm).1.all r (by have := (hLg m hm).2.1; omega)
    refine ⟨Y, _, hR, hO, h2, ?_⟩
    rw [hfil h2, Int.toNat_natCast]
    obtain ⟨hwE, hMd'⟩ := h1.write hrow (off := (m : Int)) (by omega) (role := (r : Int)) (by omega) rfl (by rw [hrg]; exact hKg) h64
    refine ⟨by rw [hwE]; decide, _, hMd', fun t ht => ?_, fun i j hij => ?_, (writeD_blks ..).trans h5⟩
    · rw [rwT_up hok hrow (by omega) (by omega) hc hr]
      by_cases e : (t : Int) = (m : Int)
      · obtain rfl : t = m := by omega
        rw [if_pos rfl, if_pos (by omega), hrwm]
      · rw [if_neg e, h3 t ht]
        by_cases e2 : t < m
        · rw [if_pos e2, if_pos (by omega)]
        · rw [if_neg e2, if_neg (by omega)]
    · unfold upF
      rw [hrg, if_neg fun h => hij h.1]
      exact h4 i j hij
  · rintro _ ds' ⟨f', h1, h3, h4, h5⟩
    rw [h1.no42 fun i hi => hK2 i (by have := h1.len; omega)]
    exact ⟨rfl, f', h1.flush.1, h1.flush.2, fun m hm => by rw [h3 m hm, if_pos hm], h4, (flush_blks ds').trans h5⟩
/-- too many are lost -/
theorem rebuild_many (hkk : s.k = (kk : Int)) (hk0 : 0 < kk) (hc : s.c = (c : Int)) (hMB : M ≤ 1000000) (hK2 : ∀ i, i < c → K i ≠ 2) (hrow : 0 ≤ row ∧ row < s.r) (hg : g < c) (hKg : K g = 0) (hr : r < c) (hro : roleG s.c s.k s.r row g = (r : Int))
    (hLg : GoodL (Lg 0) 64 ∧ (Lg 0).length = c ∧ ∀ i, i < c → i ≠ r → lostK s bu K row i = false → (rwT s f row (0 : Nat) c).getD i [] = (Lg 0).getD i [])
    (hMd : MdS s ds bu N M K f) (H : Ow (seK s ds bu) [] w0 w X) (h2 : 2 < (appR (misL (lostK s bu K row) c) r).length) :
    Calls Tryz.prog 22 #[.agg (rwC s ds.length bu.length), .int .i64 row, .int .i64 (g : Int)] w fun e w' => e = .returned (.int .i64 60) ∧ Ow (soK s bu fun ds' => ds' = ds) [] w0 w' X := by
  have hok := hMd.ok
  refine rebuild_spec (s := s) (bu := bu) (kk := kk) (n := ds.length) (N := 0) (r := (r : Int)) (eZ := 60) (D := fun _ ds' => ds' = ds) hkk (Nat.zero_le _) (so_shut rfl H) ?_ hrow (by omega) ?_ hro (by omega) (fun m ds' hm => by omega) (fun _ => ⟨by decide, ?_⟩) (fun h => by omega)
  · rintro m ds' hm rfl
    exact ⟨rfl, hMd.may, hMd.few.mono (by omega)⟩
  · rintro ds' rfl
    obtain ⟨p, a, hk, hl⟩ := hMd.live (i := g) (by have := hMd.len; omega) hKg
    exact ⟨p, a, by rw [Int.toNat_natCast]; exact hk, hl.on.dead⟩
  · rintro ds' rfl
    obtain ⟨Y, hR, hO, _⟩ := read_good hMd hc (fun i hi e => absurd e (hK2 i hi)) hrow hr (m := 0) (by omega) hLg
    exact ⟨Y, _, hR, hO, .inl ⟨h2, rfl, rfl⟩⟩
theorem rebuild_nil (hMB : M ≤ 1000000) (hrow : 0 ≤ row ∧ row < s.r) (hg : (g : Int) < s.c) (hKg : K g = 1) (hMd : MdS s ds bu N M K f) (H : Ow (seK s ds bu) [] w0 w X) :
    Calls Tryz.prog 22 #[.agg (rwC s ds.length bu.length), .int .i64 row, .int .i64 (g : Int)] w fun e w' => e = .returned (.int .i64 40) ∧ Ow (seK s ds bu) [] w0 w' X := by
  refine (mend_Rebuild_calls (R := fun v w' => v = .int .i64 40 ∧ Ow (seK s ds bu) [] w0 w' X) ?_).mono fun e w' ⟨v, he, hv, h⟩ => ⟨by rw [he, hv], h⟩
  unfold mend_Rebuild
  refine Ow.alloc H fun k3 w1 H1 => Ow.alloc H1 fun k4 w2 H2 => ?_
  have H2 : Ow (seK s ds bu) [] w0 w2 (blk k4 #[.int .i64 row] 3 :: blk k3 (rwC s ds.length bu.length) 30 :: X) := H2
  have c3 : ∀ {h : Kd} {w' : World} {Y : List A}, Ow h [] w0 w' Y → blk k3 (rwC s ds.length bu.length) 30 ∈ Y → ∀ i v, (rwC s ds.length bu.length)[i]? = some v → w'.cell? ⟨k3, i, none⟩ = some v := fun h' hm i v hv => h'.ld hm hv
  refine ⟨_, _, _, _, _, _, _, _, _, ⟨c3 H2 (by repeat (first | exact List.Mem.head _ | refine List.Mem.tail _ ?_)) 0 _ rfl, c3 H2 (by repeat (first | exact List.Mem.head _ | refine List.Mem.tail _ ?_)) 1 _ rfl, c3 H2 (by repeat (first | exact List.Mem.head _ | refine List.Mem.tail _ ?_)) 2 _ rfl, c3 H2 (by repeat (first | exact List.Mem.head _ | refine List.Mem.tail _ ?_)) 3 _ rfl, c3 H2 (by repeat (first | exact List.Mem.head _ | refine List.Mem.tail _ ?_)) 4 _ rfl⟩, ?_⟩
  have hok := hMd.ok
  have hlen := hMd.len
  have hl : ds.length ≤ 1000000 := by unfold OkG at hok; omega
  have hMy := may16_spec (se_w H2) hl
  rw [decide_eq_true hMd.may] at hMy
  refine hMy.mono fun e w3 ⟨he3, hx3⟩ => ⟨_, he3, no rfl ?_⟩
  have H3 := H2.quiet hx3
  refine ⟨_, H3.ld (b := k4) (by repeat (first | exact List.Mem.head _ | refine List.Mem.tail _ ?_)) rfl, dec_t fun h => absurd h (by omega), dec_f fun _ => ?_⟩
  refine ⟨_, H3.ld (b := k4) (by repeat (first | exact List.Mem.head _ | refine List.Mem.tail _ ?_)) rfl, _, c3 H3 (by repeat (first | exact List.Mem.head _ | refine List.Mem.tail _ ?_)) 2 _ rfl, dec_t fun h => absurd h (by omega), dec_f fun _ => ?_⟩
  refine ⟨dec_t fun h => absurd h (by omega), dec_f fun _ => ?_⟩
  refine ⟨_, c3 H3 (by repeat (first | exact List.Mem.head _ | refine List.Mem.tail _ ?_)) 0 _ rfl, dec_t fun h => absurd h (by omega), dec_f fun _ => ?_⟩
  obtain ⟨hk, _⟩ := hMd.not (i := g) (by omega) hKg
  obtain ⟨ad, had, hcell⟩ := se_dcell H3 hk
  exact ⟨_, _, _, c3 H3 (by repeat (first | exact List.Mem.head _ | refine List.Mem.tail _ ?_)) 3 _ rfl, ad, had, by omega, by omega, _, by rw [Int.toNat_natCast]; exact hcell, yes rfl ⟨rfl, H3.dropX.dropX⟩⟩
theorem rebuild_range {col : Int} (hrow : 0 ≤ row) (hcol : 0 ≤ col) (hout : row ≥ s.r ∨ col ≥ s.c) (hMd : MdS s ds bu N M K f) (H : Ow (seK s ds bu) [] w0 w X) :
    Calls Tryz.prog 22 #[.agg (rwC s ds.length bu.length), .int .i64 row, .int .i64 col] w fun e w' => e = .returned (.int .i64 70) ∧ Ow (seK s ds bu) [] w0 w' X := by
  refine (mend_Rebuild_calls (R := fun v w' => v = .int .i64 70 ∧ Ow (seK s ds bu) [] w0 w' X) ?_).mono fun e w' ⟨v, he, hv, h⟩ => ⟨by rw [he, hv], h⟩
  unfold mend_Rebuild
  refine Ow.alloc H fun k3 w1 H1 => Ow.alloc H1 fun k4 w2 H2 => ?_
  have H2 : Ow (seK s ds bu) [] w0 w2 (blk k4 #[.int .i64 row] 3 :: blk k3 (rwC s ds.length bu.length) 30 :: X) := H2
  have c3 : ∀ {h : Kd} {w' : World} {Y : List A}, Ow h [] w0 w' Y → blk k3 (rwC s ds.length bu.length) 30 ∈ Y → ∀ i v, (rwC s ds.length bu.length)[i]? = some v → w'.cell? ⟨k3, i, none⟩ = some v := fun h' hm i v hv => h'.ld hm hv
  refine ⟨_, _, _, _, _, _, _, _, _, ⟨c3 H2 (by repeat (first | exact List.Mem.head _ | refine List.Mem.tail _ ?_)) 0 _ rfl, c3 H2 (by repeat (first | exact List.Mem.head _ | refine List.Mem.tail _ ?_)) 1 _ rfl, c3 H2 (by repeat (first | exact List.Mem.head _ | refine List.Mem.tail _ ?_)) 2 _ rfl, c3 H2 (by repeat (first | exact List.Mem.head _ | refine List.Mem.tail _ ?_)) 3 _ rfl, c3 H2 (by repeat (first | exact List.Mem.head _ | refine List.Mem.tail _ ?_)) 4 _ rfl⟩, ?_⟩
  have hok := hMd.ok
  have hlen := hMd.len
  have hl : ds.length ≤ 1000000 := by unfold OkG at hok; omega
  have hMy := may16_spec (se_w H2) hl
  rw [decide_eq_true hMd.may] at hMy
  refine hMy.mono fun e w3 ⟨he3, hx3⟩ => ⟨_, he3, no rfl ?_⟩
  have H3 := H2.quiet hx3
  refine ⟨_, H3.ld (b := k4) (by repeat (first | exact List.Mem.head _ | refine List.Mem.tail _ ?_)) rfl, dec_t fun h => absurd h (by omega), dec_f fun _ => ?_⟩
  refine ⟨_, H3.ld (b := k4) (by repeat (first | exact List.Mem.head _ | refine List.Mem.tail _ ?_)) rfl, _, c3 H3 (by repeat (first | exact List.Mem.head _ | refine List.Mem.tail _ ?_)) 2 _ rfl, dec_t fun h => ⟨rfl, H3.dropX.dropX⟩, dec_f fun _ => ?_⟩
  refine ⟨dec_t fun h => absurd h (by omega), dec_f fun _ => ?_⟩
  exact ⟨_, c3 H3 (by repeat (first | exact List.Mem.head _ | refine List.Mem.tail _ ?_)) 0 _ rfl, dec_t fun h => ⟨rfl, H3.dropX.dropX⟩, dec_f fun h => absurd h (by omega)⟩
/-- Repair and Resync, where something is lost -/
theorem repair19_lost {L : List Txt} {l : List Int} (hk0 : 0 < s.k) (hl : 0 < l.length) (hM : RMay s ds bu) (hF : FewL ds 1000000) (H : Ow (seK s ds bu) [] w0 w X) (hrow : 0 ≤ row ∧ row < s.r) (hR : readR s ds bu row 0 = .ok (L, l)) :
    Calls Tryz.prog 16 #[.agg (rwC s ds.length bu.length), .int .i64 row] w fun e w' => e = .returned (.tuple #[.int .i64 0, .int .i64 0, .int .i64 5]) ∧ Ow (seK s ds bu) [] w0 w' X := by
  refine (mend_Repair_calls (R := fun v w' => v = .tuple #[.int .i64 0, .int .i64 0, .int .i64 5] ∧ Ow (seK s ds bu) [] w0 w' X) ?_).mono fun e w' ⟨v, he, hv, h⟩ => ⟨by rw [he, hv], h⟩
  unfold mend_Repair
  refine Ow.alloc H fun k2 w1 H1 => Ow.alloc H1 fun k3 w2 H2 => Ow.alloc H2 fun k4 w3 H3 => Ow.alloc H3 fun k5 w4 H4 => ?_
  have H4 : Ow (seK s ds bu) [] w0 w4.drew (blk k5 #[.int .i64 0] 3 :: blk k4 #[.int .i64 0] 3 :: blk k3 #[.int .i64 row] 3 :: blk k2 (rwC s ds.length bu.length) 30 :: X) := H4.drew
  generalize hB : blk k5 #[.int .i64 0] 3 :: blk k4 #[.int .i64 0] 3 :: blk k3 #[.int .i64 row] 3 :: blk k2 (rwC s ds.length bu.length) 30 :: X = B at H4
  have c2 : ∀ {w' : World}, Ow (seK s ds bu) [] w0 w' B → ∀ i v, (rwC s ds.length bu.length)[i]? = some v → w'.cell? ⟨k2, i, none⟩ = some v := fun h' i v hv => by
    rw [← hB] at h'
    exact h'.ld (b := k2) (by repeat (first | exact List.Mem.head _ | refine List.Mem.tail _ ?_)) hv
  refine ⟨fun w' => Ow (seK s ds bu) [] w0 w' B, H4, _, _, _, _, _, _, _, _, _, fun w' h' => ⟨c2 h' 0 _ rfl, c2 h' 1 _ rfl, c2 h' 2 _ rfl, c2 h' 3 _ rfl, c2 h' 4 _ rfl⟩, _, _, _, _, _, _, _, _, _, fun w' h' => ⟨c2 h' 0 _ rfl, c2 h' 1 _ rfl, c2 h' 2 _ rfl, c2 h' 3 _ rfl, c2 h' 4 _ rfl⟩, row, fun w' h' => (by rw [← hB] at h'; exact h'.ld (b := k3) (by repeat (first | exact List.Mem.head _ | refine List.Mem.tail _ ?_)) rfl), ?_⟩
  refine (whole_lost rfl rfl hk0 hl H4 hM hF hrow hR).mono fun e w5 ⟨he5, H5⟩ => ⟨_, he5, H5, ?_⟩
  refine (done19_err H5 (by decide)).mono fun e w6 ⟨he6, H6⟩ => ⟨_, he6, H6, yes rfl ?_⟩
  rw [← hB] at H6
  refine H6.st (c' := #[.int .i64 0]) (.tail .head) (by simp) rfl rfl fun w8 H8 => ?_
  refine H8.st (c' := #[.int .i64 0]) .head (by simp) rfl rfl fun w9 H9 => ?_
  exact ⟨_, H9.ld (b := k4) (by repeat (first | exact List.Mem.head _ | refine List.Mem.tail _ ?_)) rfl, _, H9.ld (b := k5) (by repeat (first | exact List.Mem.head _ | refine List.Mem.tail _ ?_)) rfl, rfl, H9.dropX.dropX.dropX.dropX⟩
theorem resync19_lost {L : List Txt} {l : List Int} (hk0 : 0 < s.k) (hl : 0 < l.length) (hM : RMay s ds bu) (hF : FewL ds 1000000) (H : Ow (seK s ds bu) [] w0 w X) (hrow : 0 ≤ row ∧ row < s.r) (hR : readR s ds bu row 0 = .ok (L, l)) :
    Calls Tryz.prog 18 #[.agg (rwC s ds.length bu.length), .int .i64 row] w fun e w' => e = .returned (.int .i64 5) ∧ Ow (seK s ds bu) [] w0 w' X := by
  refine (mend_Resync_calls (R := fun v w' => v = .int .i64 5 ∧ Ow (seK s ds bu) [] w0 w' X) ?_).mono fun e w' ⟨v, he, hv, h⟩ => ⟨by rw [he, hv], h⟩
  unfold mend_Resync
  refine Ow.alloc H fun k2 w1 H1 => Ow.alloc H1 fun k3 w2 H2 => ?_
  have H2 : Ow (seK s ds bu) [] w0 w2.drew (blk k3 #[.int .i64 row] 3 :: blk k2 (rwC s ds.length bu.length) 30 :: X) := H2.drew
  have c2 : ∀ {w' : World}, Ow (seK s ds bu) [] w0 w' (blk k3 #[.int .i64 row] 3 :: blk k2 (rwC s ds.length bu.length) 30 :: X) → ∀ i v, (rwC s ds.length bu.length)[i]? = some v → w'.cell? ⟨k2, i, none⟩ = some v := fun h' i v hv => h'.ld (b := k2) (by repeat (first | exact List.Mem.head _ | refine List.Mem.tail _ ?_)) hv
  refine ⟨fun w' => Ow (seK s ds bu) [] w0 w' (blk k3 #[.int .i64 row] 3 :: blk k2 (rwC s ds.length bu.length) 30 :: X), H2, _, _, _, _, _, _, _, _, _, fun w' h' => ⟨c2 h' 0 _ rfl, c2 h' 1 _ rfl, c2 h' 2 _ rfl, c2 h' 3 _ rfl, c2 h' 4 _ rfl⟩, _, _, _, _, _, _, _, _, _, fun w' h' => ⟨c2 h' 0 _ rfl, c2 h' 1 _ rfl, c2 h' 2 _ rfl, c2 h' 3 _ rfl, c2 h' 4 _ rfl⟩, row, fun w' h' => h'.ld (b := k3) (by repeat (first | exact List.Mem.head _ | refine List.Mem.tail _ ?_)) rfl, ?_⟩
  refine (whole_lost rfl rfl hk0 hl H2 hM hF hrow hR).mono fun e w5 ⟨he5, H5⟩ => ⟨_, he5, H5, ?_⟩
  exact (done19_err H5 (by decide)).mono fun e w6 ⟨he6, H6⟩ => ⟨_, he6, H6, rfl, H6.dropX.dropX⟩
/-- a sector is changed -/
theorem MdS.change (h : MdS s ds bu N M K f) (hh : MdH ds N K f) {i j : Nat} (hi : i < ds.length) (h0 : K i = 0) (hj : j < N) {x : ByteArray} (hx : x.size = 64) :
    ∃ p a, ds[i]? = some (some (p, a)) ∧ a.put (j : Int) x = 0 ∧ MdS s (ds.set i (some (p, a.change (j : Int) x))) bu N M K (upF f i j x) ∧ MdH (ds.set i (some (p, a.change (j : Int) x))) N K (upF f i j x) := by
  obtain ⟨p, a, hk, ha⟩ := hh i hi h0
  have hc := ha.change hj hx
  have e2 : upF f i j x i = fun t => if t = j then x else f i t := by
    funext t
    unfold upF
    simp
  have e3 : ∀ t, t ≠ i → upF f i j x t = f t := fun t ht => by
    funext y
    unfold upF
    rw [if_neg fun h => ht h.1]
  refine ⟨p, a, hk, ha.on.put (by omega) hx, ⟨h.ok, by rw [List.length_set]; exact h.len, h.bl, h.size, fun t ht => ?_⟩, fun t ht h0 => ?_⟩
  · rw [List.length_set] at ht
    by_cases e : t = i
    · subst e
      refine .inl ⟨h0, p, _, List.getElem?_set_self ht, ?_⟩
      rw [e2]
      exact hc.live M
    · rw [List.getElem?_set_ne (Ne.symm e), e3 t e]
      exact h.co t ht
  · rw [List.length_set] at ht
    by_cases e : t = i
    · subst e
      refine ⟨p, _, List.getElem?_set_self ht, ?_⟩
      rw [e2]
      exact hc
    · rw [List.getElem?_set_ne (Ne.symm e), e3 t e]
      exact hh t ht h0
end
end Go.Proofs.YtedbbdeeofdepaaGreatDoor
end
section
/-! mend's laws: that a row is checked; what is laid. -/
namespace Go.Proofs.YtedbbdeeofdepaaGreatDoor
open Go.Sh Go.RowKit
set_option linter.unusedVariables false
set_option linter.unusedSimpArgs false
set_option maxRecDepth 20000
set_option maxHeartbeats 1000000
theorem zero_txt : zeroSec.data.toList = List.replicate 64 0 := by decide
theorem rwT_zero (s : RwS) (row off : Int) (c : Nat) : rwT s (fun _ _ => zeroSec) row off c = List.replicate c (List.replicate 64 0) := by
  unfold rwT
  refine List.eq_replicate_iff.2 ⟨by simp, fun b hb => ?_⟩
  obtain ⟨i, _, rfl⟩ := List.mem_map.1 hb
  exact zero_txt
theorem set_back {L : List Txt} {i : Nat} (x : Txt) : (L.set i x).set i (L.getD i []) = L := by
  rw [List.set_set]
  by_cases h : i < L.length
  · refine List.ext_getElem (by simp) fun j h1 h2 => ?_
    rw [List.getElem_set]
    split
    · rename_i e; subst e
      rw [List.getD_eq_getElem?_getD, List.getElem?_eq_getElem h]; rfl
    · rfl
  · rw [List.set_eq_of_length_le (by omega)]
theorem repl_getD {n i : Nat} {x : Int} (h : i < n) : (List.replicate n x).getD i 0 = x := by
  rw [List.getD_eq_getElem?_getD, List.getElem?_replicate, if_pos h]; rfl
theorem txt_ne {x y : ByteArray} (h : x ≠ y) : x.data.toList ≠ y.data.toList := fun e => h (by
  cases x; cases y
  simp only [ByteArray.mk.injEq]
  exact Array.toList_inj.1 e)
theorem full_len (x : ByteArray) : (fullB x).data.toList.length = 64 := by
  have : ((fullB x).data.toList).length = (fullB x).size := by rw [Array.length_toList]; rfl
  exact this.trans (fullB_size x)
theorem lostK_yes {s : RwS} {bu : List Int} {K : Nat → Nat} {row : Int} {i : Nat} (h : K (colR s row i).toNat = 1) : lostK s bu K row i = true := by unfold lostK; rw [decide_eq_true h, Bool.or_true]
theorem lostK_no {s : RwS} {bu : List Int} {K : Nat → Nat} {row : Int} {i : Nat} (h : K (colR s row i).toNat ≠ 1) (hb : row < bu.getD (colR s row i).toNat 0) : lostK s bu K row i = false := by unfold lostK; rw [decide_eq_false h, decide_eq_false (by omega)]; rfl
theorem shown19_spec (w : World) : Ret Tryz.prog 8 #[] w (.bool true) := by
  refine ret_of (revetmentlaw19_shown_calls ?_)
  unfold revetmentlaw19_shown
  refine (geo19_spec (a := 0) (b := 0) (d := 0) (by omega) (by omega) (by omega) w).mono fun e w1 ⟨he1, hx1⟩ => ⟨_, _, _, he1, ?_⟩
  refine (pair19_spec (c := 4) (k := 1) (r := 1) (by omega) (by omega) (by omega) w1).mono fun e w2 ⟨s, sr, ds, rs, X, hP, he2, H2⟩ => ⟨_, _, _, _, _, _, _, _, _, _, _, _, _, _, _, _, _, _, _, he2, ?_⟩
  obtain ⟨gc, gk, gr⟩ := hP.g
  obtain ⟨hM, hH, hl, H2⟩ := hP.md (N := 5) (by unfold OkG; omega) (by decide) H2
  rw [show Int.toNat 4 = 4 from rfl] at hM hl H2
  have H2 : Ow (seK s ds (List.replicate 4 1)) [] w w2 ([] ++ []) := Ow.over H2 ((T.nil w).quiet hx1)
  refine H2.alloc fun k1 w3 H3 => H3.alloc fun k2 w4 H4 => ?_
  refine Ow.st5 H4 (v3 := .slice s.pd 4 s.cd) (v4 := .slice s.pb 4 s.cb) (by repeat (first | exact Turn.head | apply Turn.tail)) rfl rfl rfl rfl rfl fun w5 H5 => ?_
  refine Ow.st5 H5 (v3 := .slice sr.pd 4 sr.cd) (v4 := .slice sr.pb 4 sr.cb) (by repeat (first | exact Turn.head | apply Turn.tail)) rfl rfl rfl rfl rfl fun w6 H6 => ?_
  have H6 : Ow (seK s ds (List.replicate 4 1)) [] w w6 (blk k2 (rwC sr 4 4) 33 :: [blk k1 (rwC s 4 4) 30]) := H6
  have H6 := H6.dropX.drew
  have c1 : ∀ {h : Kd} {w' : World}, Ow h [] w w' [blk k1 (rwC s 4 4) 30] → ∀ i v, (rwC s 4 4)[i]? = some v → w'.cell? ⟨k1, i, none⟩ = some v := fun h' i v hv => h'.ld (by repeat (first | exact List.Mem.head _ | refine List.Mem.tail _ ?_)) hv
  obtain ⟨p, a, hk, hput, hM2, hH2⟩ := hM.change hH (i := 1) (j := 4) (by omega) rfl (by omega) (fullB_size (ByteArray.mk #[97]))
  have dc : ∀ {w' : World} {du : List Od} {b : AD}, du[1]? = some (some (p, b)) → Ow (seK s du (List.replicate 4 1)) [] w w' [blk k1 (rwC s 4 4) 30] → ∃ ad, s.pd = some ad ∧ w'.cell? (ad.add 1) = some (.pointer (some ⟨p, 0, none⟩)) := fun hy h' => se_dcell h' hy
  obtain ⟨ad, had, _⟩ := dc hk H6
  refine ⟨fun w' => ∃ (du : List Od) (b : AD), du[1]? = some (some (p, b)) ∧ Ow (seK s du (List.replicate 4 1)) [] w w' [blk k1 (rwC s 4 4) 30], ⟨ds, a, hk, H6⟩, no rfl ⟨_, _, _, fun w' ⟨du, b, _, h'⟩ => c1 h' 3 _ rfl, ad, had, by omega, by omega, some ⟨p, 0, none⟩, fun w' ⟨du, b, hy, h'⟩ => ?_, ?_⟩⟩
  · obtain ⟨ad', had', hc⟩ := dc hy h'
    rw [had] at had'; cases had'; exact hc
  refine (full19_spec _ (by decide) _).mono fun e w7 ⟨he7, hx7⟩ => ⟨_, he7, ⟨ds, a, hk, H6.quiet hx7⟩, ?_⟩
  refine (se_on (H6.quiet hx7) hk fun Z hZ => change_a hZ 4 _).mono fun e w8 ⟨he8, H8⟩ => ⟨_, he8, ⟨_, _, List.getElem?_set_self (by omega), H8⟩, ?_⟩
  rw [show a.put 4 (fullB (ByteArray.mk #[97])) = 0 from hput]
  refine no rfl ?_
  have hM2 : MdS s (ds.set 1 (some (p, a.change 4 (fullB (ByteArray.mk #[97]))))) (List.replicate 4 1) 5 0 (fun _ => 0) (upF (fun _ _ => zeroSec) 1 4 (fullB (ByteArray.mk #[97]))) := hM2
  have hok := hM2.ok
  obtain ⟨r, hr, hrc, _⟩ := role_of hok (row := 0) (by rw [gr]; omega) (c := 4) (g := 1) (by rw [gc]; rfl) (by omega)
  have hs4 : (sectorG s.c s.k s.r 0 0).toNat = 4 := by rw [sectorG_v hok (by rw [gr]; omega) (by rw [gk]; omega), Int.mul_zero]; rfl
  have hrw : rwT s (upF (fun _ _ => zeroSec) 1 4 (fullB (ByteArray.mk #[97]))) 0 (0 : Nat) 4 = (List.replicate 4 (List.replicate 64 0)).set r (fullB (ByteArray.mk #[97])).data.toList := by
    have := rwT_up (f := fun _ _ => zeroSec) hok (row := 0) (off := 0) (off' := 0) (by rw [gr]; omega) (by rw [gk]; omega) (by rw [gk]; omega) (c := 4) (by rw [gc]; rfl) hr (fullB (ByteArray.mk #[97]))
    rw [hrc, hs4, if_pos rfl, rwT_zero] at this
    exact this
  have hz := zero_good (c := 4) (m := 64) (by omega) (by omega)
  have hne : (fullB (ByteArray.mk #[97])).data.toList ≠ (List.replicate 4 (List.replicate 64 (0 : UInt8))).getD r [] := by
    have e1 : (List.replicate 4 (List.replicate 64 (0 : UInt8))).getD r [] = zeroSec.data.toList := by
      rw [List.getD_eq_getElem?_getD, List.getElem?_replicate, if_pos hr, zero_txt]; rfl
    rw [e1]
    exact txt_ne (by decide)
  obtain ⟨hj, hfil⟩ := lie_found hz (by omega) (i := r) (by rw [List.length_replicate]; exact hr) (full_len (ByteArray.mk #[97])) hne
  generalize hf : upF (fun _ _ => zeroSec) 1 4 (fullB (ByteArray.mk #[97])) = f at hM2 hrw
  generalize hdu : ds.set 1 (some (p, a.change 4 (fullB (ByteArray.mk #[97])))) = du at hM2 H8
  have hlu : du.length = 4 := by rw [← hdu, List.length_set]; exact hl
  have hLa : AllLen ((List.replicate 4 (List.replicate 64 (0 : UInt8))).set r (fullB (ByteArray.mk #[97])).data.toList) 64 := hz.all.set (full_len _) r
  have hO : OkM ((List.replicate 4 (List.replicate 64 (0 : UInt8))).set r (fullB (ByteArray.mk #[97])).data.toList) [] := ok_all (by simp) (by simp) hLa (by omega)
  have hR : ∀ m : Nat, m < 1 → readR s du (List.replicate 4 1) 0 m = .ok (rwT s f 0 m 4, []) ∧ OkM (rwT s f 0 m 4) [] := fun m hm => by
    obtain rfl : m = 0 := by omega
    refine ⟨hM2.readAll (row := 0) (off := ((0 : Nat) : Int)) (by rw [gr]; omega) (by rw [gk]; omega) (by rw [gc]; rfl) (fun _ _ => rfl) (fun i hi => by rw [repl_getD hi]; decide), ?_⟩
    rw [hrw]; exact hO
  refine ⟨_, _, _, _, _, _, _, _, _, ⟨c1 H8 0 _ rfl, c1 H8 1 _ rfl, c1 H8 2 _ rfl, c1 H8 3 _ rfl, c1 H8 4 _ rfl⟩, ?_⟩
  have hCh := check19_spec (kk := 1) (row := 0) (by rw [gk]; rfl) hM2.may (hM2.few.mono (by omega)) H8 (by rw [gr]; omega) hR
  rw [hlu, List.length_replicate] at hCh
  refine hCh.mono fun e w9 ⟨he9, H9⟩ => ⟨_, _, he9, ?_⟩
  refine ⟨_, _, _, _, _, _, _, _, _, ⟨c1 H9 0 _ rfl, c1 H9 1 _ rfl, c1 H9 2 _ rfl, c1 H9 3 _ rfl, c1 H9 4 _ rfl⟩, ?_⟩
  have hRe := repair19_spec (s := s) (bu := List.replicate 4 1) (row := 0) (N := 5) (M := 0) (kk := 1) (c := 4) (K := fun _ => 0) (L := fun m => rwT s f 0 m 4) (G := fun _ => List.replicate 4 (List.replicate 64 0)) (by rw [gk]; rfl) (by rw [gc]; rfl) (by omega) (fun _ _ => rfl) (fun i hi => by rw [repl_getD hi]; decide) (by rw [gr]; omega) (fun m hm => ⟨(hR m hm).2, .inr ?_⟩) (mdD_zero hM2) H9
  · rw [hlu, List.length_replicate] at hRe
    refine hRe.mono fun e w10 ⟨he10, H10⟩ => ⟨_, _, _, he10, ?_⟩
    have e1 : cntL (fun m => decide ((judV (rwT s f 0 m 4)).1 ≠ 0)) 1 = 1 := by
      rw [cntL_yes (by rw [hrw, hj]; rfl)]; rfl
    have e2 : cntL (fun m => decide ((judV (rwT s f 0 m 4)).1 = 1)) 1 = 1 := by
      rw [cntL_yes (by rw [hrw, hj]; rfl)]; rfl
    rw [e1, e2]
    exact yes rfl (yes rfl (yes rfl ⟨rfl, H10.ext⟩))
  · obtain rfl : m = 0 := by omega
    refine ⟨r, hr, ?_⟩
    rw [hrw]
    refine ⟨hj, hfil, set_back _, ?_⟩
    exact hz.all r (by rw [List.length_replicate]; exact hr)
end Go.Proofs.YtedbbdeeofdepaaGreatDoor
end
section
/-! mend's laws: a good row is laid. -/
namespace Go.Proofs.YtedbbdeeofdepaaGreatDoor
open Go.Sh Go.RowKit
set_option linter.unusedVariables false
set_option linter.unusedSimpArgs false
set_option maxRecDepth 20000
set_option maxHeartbeats 1000000
theorem shown19_end {w w1 : World} (hx : Ext w w1) : Calls Tryz.prog 8 #[] w1 fun e w2 => ∃ b : Bool, e = .returned (.bool b) ∧ RetR w (.bool true) (.bool b) w2 :=
  (shown19_spec w1).mono fun e w2 ⟨he, h2⟩ => ⟨_, he, rfl, hx.trans h2⟩
theorem take_set {α : Type} {A R : List α} {i : Nat} {x : α} (hl : A.length = R.length) (hi : i < A.length) (hx : A[i] = x) : (A.take i ++ R.drop i).set i x = A.take (i + 1) ++ R.drop (i + 1) := by
  have htl : (A.take i).length = i := by rw [List.length_take]; omega
  rw [List.set_append_right _ _ (by rw [htl]; exact Nat.le_refl _), htl, Nat.sub_self, List.take_add_one, List.getElem?_eq_getElem hi, hx, List.drop_eq_getElem_cons (show i < R.length by omega), List.set_cons_zero]
  simp
theorem laid19_spec {l : List ByteArray} {p : Option Addr} {c0 : Nat} (hl100 : ∀ i, i < l.length → (l.getD i noB).size ≤ 100) {s : RwS} {ds : List Od} {bu : List Int} {row off : Int} {w0 w : World} {X : List A} {N M c : Nat} {K : Nat → Nat} {f : Nat → Nat → ByteArray}
    (hc : s.c = (c : Int)) (hMB : M + c ≤ 1000000) (hK : ∀ i, i < c → K i = 0) (hrow : 0 ≤ row ∧ row < s.r) (hoff : 0 ≤ off ∧ off < s.k) (hMd : MdS s ds bu N M K f) (H : Ow (seK s ds bu) [] w0 w X) (Hs : strsAt w0 p l) :
    Calls Tryz.prog 11 #[.agg (rwC s ds.length bu.length), .int .i64 row, .int .i64 off, .slice p l.length c0] w fun e w' => ∃ (g : Option Nat) (cs : Nat) (ds' : List Od) (f' : Nat → Nat → ByteArray), e = .returned (.tuple #[.slice (ptr g) c cs, .bool true]) ∧ MdS s ds' bu N (M + c) K f' ∧ MdH ds' N K f' ∧ rwT s f' row off c = makeF (dtL l (c - 2)) ∧ (∀ o : Int, 0 ≤ o ∧ o < s.k → o ≠ off → rwT s f' row o c = rwT s f row o c) ∧ Ow (seK s ds' bu) [] w0 w' (rowP 9 1 g c cs (txts (makeF (dtL l (c - 2)))) :: X) := by
  refine (revetmentlaw19_laid_calls (R := fun v w' => ∃ (g : Option Nat) (cs : Nat) (ds' : List Od) (f' : Nat → Nat → ByteArray), v = (.tuple #[.slice (ptr g) c cs, .bool true]) ∧ MdS s ds' bu N (M + c) K f' ∧ MdH ds' N K f' ∧ rwT s f' row off c = makeF (dtL l (c - 2)) ∧ (∀ o : Int, 0 ≤ o ∧ o < s.k → o ≠ off → rwT s f' row o c = rwT s f row o c) ∧ Ow (seK s ds' bu) [] w0 w' (rowP 9 1 g c cs (txts (makeF (dtL l (c - 2)))) :: X)) ?_).mono fun e w' ⟨v, he, g, cs, ds', f', hv, h⟩ => ⟨g, cs, ds', f', by rw [he, hv], h⟩
  unfold revetmentlaw19_laid
  have hok := hMd.ok
  have hcB : 4 ≤ c ∧ c ≤ 10 := by unfold OkG at hok; omega
  have hld : ds.length = c := by have := hMd.len; omega
  refine Ow.alloc H fun k4 w1 H1 => Ow.alloc H1 fun k14 w2 H2 => ?_
  have H2 : Ow (seK s ds bu) [] w0 w2 (rowP 9 1 (some k14) 0 0 (txts (dtL l 0)) :: blk k4 (rwC s ds.length bu.length) 30 :: X) := H2.into fun Y hT hb => hb _ _ (blk_row hT rfl rfl (by decide))
  have c4 : ∀ {h : Kd} {w' : World} {Q : List A}, Ow h [] w0 w' (Q ++ blk k4 (rwC s ds.length bu.length) 30 :: X) → ∀ i v, (rwC s ds.length bu.length)[i]? = some v → w'.cell? ⟨k4, i, none⟩ = some v := fun h' i v hv => h'.ld (List.mem_append_right _ List.mem_cons_self) hv
  have ew2 : IntKind.i64.wrap (s.c - 2) = ((c - 2 : Nat) : Int) := by rw [wrap64 _ (by omega) (by omega)]; omega
  refine ⟨fun vs w' => ∃ (i : Nat) (g : Option Nat) (cp : Nat), vs = [.slice (ptr g) i cp, .int .i64 (i : Int)] ∧ i ≤ c - 2 ∧ Ow (seK s ds bu) [] w0 w' ([rowP 9 1 g i cp (txts (dtL l i))] ++ blk k4 (rwC s ds.length bu.length) 30 :: X), fun vs _ => match vs with | [_, .int _ i] => ((c : Int) - 2 - i).toNat | _ => 0, ⟨0, some k14, 0, rfl, by omega, H2⟩, ?_⟩
  rintro vs w5 ⟨i, g, cp, rfl, hi, H5⟩
  refine ⟨_, _, _, _, rfl, _, c4 H5 0 _ rfl, ?_⟩
  rw [ew2]
  refine ⟨dec_t fun hlt => ?_, dec_f fun hge => ?_⟩
  · refine Join.intro fun J hJ => ?_
    have hJ : (l.getD i noB).size ≤ 100 → J [.string (l.getD i noB)] w5 := by
      intro hs
      refine hJ _ _ ⟨_, rfl, ?_⟩
      refine (full19_spec _ (by omega) _).mono fun e w6 ⟨he6, hx6⟩ => ⟨_, he6, ?_⟩
      refine push_owN (i := Tryz.t9) (z := .string (ByteArray.mk #[])) (g := g) (by kernel_rfl) (by kernel_rfl) (by kernel_rfl) (by kernel_rfl) (by kernel_rfl) (by kernel_rfl) (H5.quiet hx6) .head rfl (by omega) fun g' cp' w7 H7 => ?_
      rw [dtL_succ] at H7
      refine ⟨⟨i + 1, some g', cp', by rw [wrap64 _ (by omega) (by omega)]; rfl, by omega, H7⟩, ?_⟩
      show ((c : Int) - 2 - IntKind.i64.wrap ((i : Int) + 1)).toNat < ((c : Int) - 2 - (i : Int)).toNat
      rw [wrap64 _ (by omega) (by omega)]; omega
    refine ⟨dec_t fun hl2 => ?_, dec_f fun hl2 => ?_⟩
    · obtain ⟨a0, ha0, hc0⟩ := Hs.get (n := (i : Int)) (by omega) (by omega)
      exact ⟨a0, ha0, by omega, by omega, _, cell_ext H5.ext hc0, hJ (hl100 i (by omega))⟩
    · have : l.getD i noB = ByteArray.mk #[] := by rw [List.getD_eq_getElem?_getD, List.getElem?_eq_none (by omega)]; rfl
      rw [this] at hJ; exact hJ (by decide)
  obtain rfl : i = c - 2 := by omega
  have hs5 := (T.strs H5.under (g := g) (L := dtL l (c - 2)) (n := c - 2) (cap := cp) (by repeat (first | exact List.Mem.head _ | refine List.Mem.tail _ ?_))).1
  have hS5 : Short (dtL l (c - 2)) := fun x hx => by
    obtain ⟨j, hj, rfl⟩ := List.getElem_of_mem hx
    have := dtL_all l (c - 2) j hj
    rw [List.getD_eq_getElem?_getD, List.getElem?_eq_getElem hj] at this
    have this : ((dtL l (c - 2))[j]).length = 64 := this
    omega
  have hP := pR_spec hS5 (by rw [dtL_len]; omega) (c := cp) hs5
  rw [dtL_len] at hP
  refine hP.mono fun e w6 ⟨he6, hx6⟩ => ⟨_, he6, ?_⟩
  have hQ := qR_spec hS5 (by rw [dtL_len]; omega) (c := cp) (hs5.ext hx6)
  rw [dtL_len] at hQ
  refine hQ.mono fun e w7 ⟨he7, hx7⟩ => ⟨_, he7, ?_⟩
  refine push2_ow ((H5.quiet hx6).quiet hx7) .head rfl rfl (by omega) fun gs cs w8 H8 => ?_
  obtain ⟨hGL, hRl⟩ := made_good (dtL_all l (c - 2)) (by rw [dtL_len]; omega) (by rw [dtL_len]; omega)
  have hmk : txts (dtL l (c - 2)) ++ [.string (strB (sumT (dtL l (c - 2)))), .string (strB (qT (dtL l (c - 2))))] = txts (makeF (dtL l (c - 2))) := by unfold txts makeF; simp
  rw [hmk, show c - 2 + 2 = c by omega] at H8
  rw [show c - 2 + 2 = c by omega]
  have hRl : (makeF (dtL l (c - 2))).length = c := by rw [hRl, dtL_len]; omega
  generalize makeF (dtL l (c - 2)) = L at H8 hGL hRl
  clear hP hQ hs5 hS5 hmk he6 he7 H5
  have hL64 : ∀ j, j < c → (strB (L.getD j [])).size = 64 := fun j hj => by rw [strB_size]; exact hGL.all j (by omega)
  generalize hR0 : rwT s f row off c = R0
  have hRl0 : R0.length = c := by rw [← hR0, rwT_len]
  have H8 : Ow (seK s ds bu) [] w0 w8 ([rowP 9 1 gs c cs (txts L)] ++ blk k4 (rwC s ds.length bu.length) 30 :: X) := H8
  refine ⟨fun vs w' => ∃ (i : Nat) (du : List Od) (fu : Nat → Nat → ByteArray), vs = [.int .i64 (i : Int)] ∧ i ≤ c ∧ MdS s du bu N (M + i) K fu ∧ rwT s fu row off c = L.take i ++ R0.drop i ∧ (∀ o : Int, 0 ≤ o ∧ o < s.k → o ≠ off → rwT s fu row o c = rwT s f row o c) ∧ Ow (seK s du bu) [] w0 w' ([rowP 9 1 gs c cs (txts L)] ++ blk k4 (rwC s ds.length bu.length) 30 :: X), fun vs _ => match vs with | [.int _ i] => ((c : Int) - i).toNat | _ => 0, ⟨0, ds, f, rfl, by omega, hMd, by simpa using hR0, fun _ _ _ => rfl, H8⟩, ?_⟩
  clear H8
  rintro vs w9 ⟨i, du, fu, rfl, hi, hMu, hru, hou, H9⟩
  have hlu : du.length = c := by have := hMu.len; omega
  refine ⟨_, rfl, dec_t fun hlt => ?_, dec_f fun hge => ?_⟩
  · have H10 := H9.drew
    have hs10 : ∀ {h : Kd} {w' : World}, Ow h [] w0 w' ([rowP 9 1 gs c cs (txts L)] ++ blk k4 (rwC s ds.length bu.length) 30 :: X) → strsL w' (ptr gs) L := fun h' => (T.strs h'.under (g := gs) (L := L) (n := c) (cap := cs) (by repeat (first | exact List.Mem.head _ | refine List.Mem.tail _ ?_))).1
    obtain ⟨a0, ha0, _⟩ := (hs10 H10).get (n := i) (by omega)
    refine ⟨fun w' => ∃ h, Ow h [] w0 w' ([rowP 9 1 gs c cs (txts L)] ++ blk k4 (rwC s ds.length bu.length) 30 :: X), ⟨_, H10⟩, ?_⟩
    refine ⟨_, _, _, _, _, _, _, _, _, fun w' ⟨h, h'⟩ => ⟨c4 h' 0 _ rfl, c4 h' 1 _ rfl, c4 h' 2 _ rfl, c4 h' 3 _ rfl, c4 h' 4 _ rfl⟩, ?_⟩
    refine ⟨a0, ha0, by omega, by omega, strB (L.getD i []), fun w' ⟨h, h'⟩ => ?_, ?_⟩
    · obtain ⟨a1, ha1, hc1⟩ := (hs10 h').get (n := i) (by omega)
      rw [ha0] at ha1; cases ha1
      rw [Int.toNat_natCast]; exact hc1
    have hcol := colR_nat hok hrow (role := (i : Int)) (by omega)
    obtain ⟨hwE, hMd'⟩ := hMu.write hrow hoff (role := (i : Int)) (by omega) rfl (hK _ (by omega)) (hL64 i (by omega))
    have hWr := se_write H10 (by omega) (hMu.few.mono (by omega)) row off i (strB (L.getD i []))
    rw [hwE, show du.length = ds.length by omega] at hWr
    refine hWr.mono fun e w11 ⟨he11, H11⟩ => ⟨_, he11, ⟨_, H11⟩, no rfl ?_⟩
    refine ⟨⟨i + 1, _, _, by rw [wrap64 _ (by omega) (by omega)]; rfl, by omega, hMd', ?_, fun o ho hne => ?_, H11⟩, ?_⟩
    · rw [rwT_up hok hrow hoff hoff hc (by omega), if_pos rfl, hru]
      refine take_set (by omega) (by omega) ?_
      show L[i] = L.getD i []
      rw [List.getD_eq_getElem?_getD, List.getElem?_eq_getElem (by omega)]; rfl
    · rw [rwT_up hok hrow hoff ho hc (by omega), if_neg hne]
      exact hou o ho hne
    · show ((c : Int) - IntKind.i64.wrap ((i : Int) + 1)).toNat < ((c : Int) - (i : Int)).toNat
      rw [wrap64 _ (by omega) (by omega)]; omega
  obtain rfl : i = c := by omega
  refine ⟨_, _, _, _, _, _, _, _, _, ⟨c4 H9 0 _ rfl, c4 H9 1 _ rfl, c4 H9 2 _ rfl, c4 H9 3 _ rfl, c4 H9 4 _ rfl⟩, ?_⟩
  have hFl := se_flush H9 (by omega) (hMu.few.mono (by omega))
  rw [if_pos hMu.may, if_pos hMu.may, hMu.no42 (fun j hj => by rw [hK j (by omega)]; decide), show du.length = ds.length by omega] at hFl
  refine hFl.mono fun e w12 ⟨he12, H12⟩ => ⟨_, he12, gs, cs, _, fu, ?_, hMu.flush.1, hMu.flush.2, ?_, hou, H12.perm (.swap _ _ _) |>.dropX⟩
  · rfl
  · rw [hru, List.take_of_length_le (by omega), List.drop_eq_nil_of_le (by omega), List.append_nil]
end Go.Proofs.YtedbbdeeofdepaaGreatDoor
end
