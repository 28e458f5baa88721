import Derived.Test.YtdfkifgkccnaiaaGreatDoorSy1
/-! syndrome: Q, Sum. -/
namespace Go.Proofs.YtdfkifgkccnaiaaGreatDoor
open Go.Sh Go.RowKit
set_option linter.unusedVariables false
set_option linter.unusedSimpArgs false
set_option maxRecDepth 20000
set_option maxHeartbeats 1000000
theorem row2 {F : List Nat} {w0 w : World} {Γ : List A} {k : Nat} {a b : List UInt8} (h : T F w0 w (blk k #[.string (strB a), .string (strB b)] 9 :: Γ)) : strsL w (some ⟨k, 0, none⟩) [a, b] := by
  have h2 : T F w0 w (rowP 9 1 (some k) 2 2 ([a, b].map fun x => .string (strB x)) :: Γ) := blk_row h rfl rfl (by decide)
  exact (T.strs h2 List.mem_cons_self).1
theorem short2 {a b : List UInt8} (ha : a.length ≤ 1000000) (hb : b.length ≤ 1000000) : Short [a, b] := fun x hx => by
  rcases List.mem_cons.1 hx with rfl | hx
  · exact ha
  · obtain rfl := List.mem_singleton.1 hx
    exact hb
theorem q_spec {L : List (List UInt8)} (hS : Short L) (hn : L.length ≤ 200) {p : Option Addr} {c : Nat} (hcl : L.length ≤ c) {w : World} (h : strsL w p L) : Ret Tryz.prog 22 #[.slice p L.length c] w (.string (strB (qT L))) := by
  refine ret_of (syndrome_Q_calls ?_)
  unfold syndrome_Q
  refine Alloc.t (T.nil w) fun k1 w1 h1 => Alloc.t h1 fun k3 w2 h2 => ?_
  refine (syndrome_powers_calls (R := fun v w' => v = .func (.func 60) #[] #[] ∧ T [] w w' [blk k3 #[.string (strB (qAcc L 0))] 9, blk k1 #[.slice p L.length c] 22]) ?_).mono ?_
  · unfold syndrome_powers
    exact ⟨rfl, h2⟩
  rintro e w3 ⟨v, he, rfl, h3⟩
  refine ⟨_, he, ?_⟩
  have Dld : ∀ {w' : World} {pm : Option Addr} {n cm m : Nat}, (∃ Γ, T [] w w' Γ ∧ blk k3 #[.string (strB (qAcc L m))] 9 ∈ Γ ∧ blk k1 #[.slice pm n cm] 22 ∈ Γ) → w'.cell? ⟨k3, 0, none⟩ = some (.string (strB (qAcc L m))) ∧ w'.cell? ⟨k1, 0, none⟩ = some (.slice pm n cm) ∧ Ext w w' := fun ⟨Γ, hd, m3, m1⟩ => ⟨hd.ld m3 rfl, hd.ld m1 rfl, hd.chg.ext⟩
  refine RangeX.t (by kernel_rfl) h3 (N := L.length) (arg := fun m => [.int .u8 ((ex m).toNat : Int)])
    (Inv := fun m Γm => ∃ pm cm, (∀ w', Ext w w' → strsL w' pm (L.drop m)) ∧ L.length - m ≤ cm ∧ Γm = [blk k3 #[.string (strB (qAcc L m))] 9, blk k1 #[.slice pm (L.length - m) cm] 22])
    (Out := fun Γ' => ∃ pm cm, Γ' = [blk k3 #[.string (strB (qAcc L L.length))] 9, blk k1 #[.slice pm 0 cm] 22])
    ⟨p, c, fun w' hx => h.ext hx, hcl, rfl⟩ ?_ ?_ ?_ ?_
  · intro yv J E hq hc1 hc2 W hW
    exact powers_spec (by omega) hq hc1 hc2 W hW
  · rintro obf l d m Γk W Φ hm ⟨pm, cm, hpm, hcm, rfl⟩ hW hΦ
    refine ⟨_, rfl, ?_⟩
    refine RoundP.t hW (G := fun Γ' => ∃ Γ'', Γ' = ob d (.deferred (some [])) :: Γ'' ∧ ∃ pm cm, (∀ w', Ext w w' → strsL w' pm (L.drop (m + 1))) ∧ L.length - (m + 1) ≤ cm ∧ Γ'' = [blk k3 #[.string (strB (qAcc L (m + 1)))] 9, blk k1 #[.slice pm (L.length - (m + 1)) cm] 22]) ?_ ?_
    · rintro Γ' w' ⟨Γ'', rfl, hi⟩ h'
      exact hΦ Γ'' w' hi h'
    · intro K X R w4 h4 hK
      have hdl : (L.drop m).length = L.length - m := List.length_drop
      have hd0 : (L.drop m).getD 0 [] = L.getD m [] := by simp [List.getD]
      obtain ⟨a, ha, _⟩ := (hpm w (.refl w)).get (n := 0) (by omega)
      refine ⟨_, _, _, h4.ld (by repeat (first | exact List.Mem.head _ | refine List.Mem.tail _ ?_)) rfl, no (by simp; omega) ?_⟩
      refine ⟨fun w' => ∃ Γ, T [] w w' Γ ∧ blk k3 #[.string (strB (qAcc L m))] 9 ∈ Γ ∧ blk k1 #[.slice pm (L.length - m) cm] 22 ∈ Γ, ⟨_, h4.drew, (by repeat (first | exact List.Mem.head _ | refine List.Mem.tail _ ?_)), (by repeat (first | exact List.Mem.head _ | refine List.Mem.tail _ ?_))⟩, _, fun w' hd => (Dld hd).1, _, _, _, fun w' hd => (Dld hd).2.1, a, ha, by omega, by omega, strB (L.getD m []), fun w' hd => ?_, ?_⟩
      · obtain ⟨a', ha', hc⟩ := (hpm w' (Dld hd).2.2).get (n := 0) (by omega)
        rw [ha] at ha'
        cases ha'
        rw [hd0, Nat.zero_mul, add_zero] at hc
        exact hc
      · have hsl := hS.get m
        refine (times_spec (strB (L.getD m [])) (ex m) (by rw [strB_size]; omega) _).mono fun e w5 ⟨he, hx5⟩ => ⟨_, he, ⟨_, h4.drew.quiet hx5, (by repeat (first | exact List.Mem.head _ | refine List.Mem.tail _ ?_)), (by repeat (first | exact List.Mem.head _ | refine List.Mem.tail _ ?_))⟩, ?_⟩
        refine Alloc.t (h4.drew.quiet hx5) fun k16 w6 h6 => ⟨⟨_, h6, (by repeat (first | exact List.Mem.head _ | refine List.Mem.tail _ ?_)), (by repeat (first | exact List.Mem.head _ | refine List.Mem.tail _ ?_))⟩, ?_⟩
        have hst := row2 h6
        refine (added_spec (L := [qAcc L m, timesL (L.getD m []) (ex m)]) (short2 (qAcc_len hS m) (by rw [timesL_len]; omega)) (by simp) (c := 2) hst).mono fun e w7 ⟨he, hx7⟩ => ⟨_, he, ⟨_, h6.quiet hx7, (by repeat (first | exact List.Mem.head _ | refine List.Mem.tail _ ?_)), (by repeat (first | exact List.Mem.head _ | refine List.Mem.tail _ ?_))⟩, ?_⟩
        have h7 := h6.quiet hx7
        have hq : sumT [qAcc L m, timesL (L.getD m []) (ex m)] = qAcc L (m + 1) := rfl
        rw [hq]
        refine St.t h7 (by repeat (first | exact Turn.head | apply Turn.tail)) (by simp) (by rfl) rfl fun w8 h8 => ?_
        refine ⟨_, _, _, h8.ld (b := k1) (by repeat (first | exact List.Mem.head _ | refine List.Mem.tail _ ?_)) rfl, _, _, _, w8, strs_from (by omega) (by omega) w8, ?_⟩
        rw [show L.length - m - (1 : Int).toNat = L.length - (m + 1) by omega]
        refine St.t h8 (by repeat (first | exact Turn.head | apply Turn.tail)) (by simp) (by rfl) rfl fun w9 h9 => hK (ob d (.deferred (some [])) :: [blk k3 #[.string (strB (qAcc L (m + 1)))] 9, blk k1 #[.slice (cutP pm cm 1) (L.length - (m + 1)) (cm - 1)] 22]) w9 ⟨_, rfl, cutP pm cm 1, cm - 1, fun w' hx => ?_, by omega, ?_⟩ ?_
        · have := (hpm w' hx).drop (c := cm) (n := 1) (by omega)
          rw [List.drop_drop] at this
          exact this
        · rfl
        · exact h9.drop
  · rintro obf l d Γk W Φ ⟨pm, cm, hpm, hcm, rfl⟩ hW hΦ
    refine ⟨_, rfl, ?_⟩
    refine RoundX.t (i := 0) hW (G := fun Γ' => ∃ Γ'', Γ' = ob d (.deferred (some [])) :: Γ'' ∧ ∃ pm cm, Γ'' = [blk k3 #[.string (strB (qAcc L L.length))] 9, blk k1 #[.slice pm 0 cm] 22]) ?_ ?_
    · rintro Γ' w' ⟨Γ'', rfl, hi⟩ h'
      exact hΦ Γ'' w' hi h'
    · intro K X R w4 h4 hX
      rw [Nat.sub_self] at h4
      exact ⟨_, _, _, h4.ld (by repeat (first | exact List.Mem.head _ | refine List.Mem.tail _ ?_)) rfl, yes rfl (hX _ w4 ⟨_, rfl, _, _, rfl⟩ h4)⟩
  · rintro d Γ' w' ⟨pm, cm, rfl⟩ h'
    refine ⟨_, h'.ld (by repeat (first | exact List.Mem.head _ | refine List.Mem.tail _ ?_)) rfl, ?_⟩
    exact shut_mark (Q := fun w2 => Value.string _ = _ ∧ Ext w w2) h' fun w2 h2 => ⟨rfl, h2.chg.ext⟩
def synP (L : List (List UInt8)) : List UInt8 := xorT (sumT (L.take (L.length - 2))) (L.getD (L.length - 2) [])
def synQ (L : List (List UInt8)) : List UInt8 := xorT (qT (L.take (L.length - 2))) (L.getD (L.length - 1) [])
theorem synP_len {L : List (List UInt8)} (h : Short L) : (synP L).length ≤ 1000000 := by
  have := sAcc_len (h.take (L.length - 2)) (L.take (L.length - 2)).length
  have := h.get (L.length - 2)
  unfold synP sumT
  rw [xorT_len]; omega
theorem synQ_len {L : List (List UInt8)} (h : Short L) : (synQ L).length ≤ 1000000 := by
  have := qAcc_len (h.take (L.length - 2)) (L.take (L.length - 2)).length
  have := h.get (L.length - 1)
  unfold synQ qT
  rw [xorT_len]; omega
theorem sum_spec {L : List (List UInt8)} (hS : Short L) (h2 : 2 ≤ L.length) (hn : L.length ≤ 200) {p : Option Addr} {c : Nat} (hcl : L.length ≤ c) {w : World} (h : strsL w p L) : Ret Tryz.prog 25 #[.slice p L.length c] w (.tuple #[.string (strB (synP L)), .string (strB (synQ L))]) := by
  refine ret_of (syndrome_Sum_calls ?_)
  unfold syndrome_Sum
  refine no (decide_eq_false (by omega)) ?_
  have hw : IntKind.i64.wrap ((L.length : Int) - 2) = ((L.length - 2 : Nat) : Int) := by rw [wrap64 _ (by omega) (by omega)]; omega
  rw [hw]
  refine ⟨fun _ => True, trivial, p, L.length - 2, c, fun w' _ => by rw [strs_to (by omega) (by omega) w', Int.toNat_natCast], cutP p c (L.length - 2), L.length - (L.length - 2), c - (L.length - 2), fun w' _ => by rw [strs_from (by omega) (by omega) w', Int.toNat_natCast], ?_⟩
  have hx0 : Ext w w.drew.drew := (Ext.refl w).drew.drew
  have htl : (L.take (L.length - 2)).length = L.length - 2 := by rw [List.length_take]; omega
  have hST := hS.take (L.length - 2)
  have hrd : ∀ {w' : World} (i : Nat), i < 2 → Ext w w' → ∃ a, cutP p c (L.length - 2) = some a ∧ w'.cell? (a.add (i * 1)) = some (.string (strB (L.getD (L.length - 2 + i) []))) := fun {w'} i hi hx => by
    obtain ⟨a, ha, hc⟩ := ((h.ext hx).drop (c := c) (n := L.length - 2) hcl).get (n := i) (by rw [List.length_drop]; omega)
    refine ⟨a, ha, ?_⟩
    rw [hc]
    simp [List.getD]
  obtain ⟨a, ha, _⟩ := hrd 0 (by omega) (Ext.refl w)
  have hr0 : ∀ {w' : World}, Ext w w' → w'.cell? a = some (.string (strB (L.getD (L.length - 2) []))) := fun hx => by
    obtain ⟨a', ha', hc⟩ := hrd 0 (by omega) hx
    rw [ha] at ha'; cases ha'
    rw [Nat.zero_mul, add_zero, Nat.add_zero] at hc
    exact hc
  have hr1 : ∀ {w' : World}, Ext w w' → w'.cell? (a.add 1) = some (.string (strB (L.getD (L.length - 1) []))) := fun hx => by
    obtain ⟨a', ha', hc⟩ := hrd 1 (by omega) hx
    rw [ha] at ha'; cases ha'
    rw [Nat.one_mul, show L.length - 2 + 1 = L.length - 1 by omega] at hc
    exact hc
  refine ⟨fun w' => Ext w w', hx0, ?_⟩
  have hp := p_spec hST (by omega) (c := c) ((h.ext hx0).take (L.length - 2))
  rw [htl] at hp
  refine hp.mono fun e w1 ⟨he, hx1⟩ => ⟨_, he, hx0.trans hx1, a, ha, by omega, by omega, _, fun w' hx => hr0 hx, ?_⟩
  refine Alloc.t ((T.nil w).quiet (hx0.trans hx1)) fun k24 w2 h24 => ⟨h24.chg.ext, ?_⟩
  have l1 : (sumT (L.take (L.length - 2))).length ≤ 1000000 := sAcc_len hST _
  have l2 : (qT (L.take (L.length - 2))).length ≤ 1000000 := qAcc_len hST _
  have l3 := hS.get (L.length - 2)
  have l4 := hS.get (L.length - 1)
  refine (added_spec (L := [sumT (L.take (L.length - 2)), L.getD (L.length - 2) []]) (short2 l1 l3) (by simp) (c := 2) (row2 h24)).mono fun e w3 ⟨he, hx3⟩ => ⟨_, he, (h24.quiet hx3).chg.ext, ?_⟩
  have h3 := h24.quiet hx3
  have hq := q_spec hST (by omega) (c := c) (by omega) ((h.ext h3.chg.ext).take (L.length - 2))
  rw [htl] at hq
  refine hq.mono fun e w4 ⟨he, hx4⟩ => ⟨_, he, (h3.quiet hx4).chg.ext, a, ha, by omega, by omega, _, fun w' hx => hr1 hx, ?_⟩
  refine Alloc.t (h3.quiet hx4) fun k31 w5 h5 => ⟨h5.chg.ext, ?_⟩
  refine (added_spec (L := [qT (L.take (L.length - 2)), L.getD (L.length - 1) []]) (short2 l2 l4) (by simp) (c := 2) (row2 h5)).mono fun e w6 ⟨he, hx6⟩ => ⟨_, he, (h5.quiet hx6).chg.ext, rfl, (h5.quiet hx6).chg.ext⟩
end Go.Proofs.YtdfkifgkccnaiaaGreatDoor
