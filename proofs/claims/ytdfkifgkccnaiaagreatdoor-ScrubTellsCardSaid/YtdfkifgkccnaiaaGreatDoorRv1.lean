import Derived.Test.YtdfkifgkccnaiaaGreatDoorSw1
import Derived.Test.YtdfkifgkccnaiaaGreatDoorRt4
/-! The reference's scrub; ScrubTells. -/
namespace Go.Proofs.YtdfkifgkccnaiaaGreatDoor
open Go.Sh Go.RowKit
set_option linter.unusedVariables false
set_option linter.unusedSimpArgs false
set_option maxRecDepth 20000
set_option maxHeartbeats 2000000
theorem judgeR_spec {L : List Txt} (hS : Short L) (hL : L.length ≤ 1000000) {p0 : Option Addr} {c0 : Nat} (hcl : L.length ≤ c0) {w : World} (hp : strsL w p0 L) :
    Calls Tryz.prog 16 #[.slice p0 L.length c0] w fun e w' => Ext w w' ∧ ((OkM L [] ∧ e = .returned (.tuple #[.int .i64 (judV L).1, .int .i64 (judV L).2, .int .i64 0])) ∨ (¬ OkM L [] ∧ e = .returned (.tuple #[.int .i64 0, .int .i64 0, .int .i64 1]))) := by
  refine (revetmentref18_Judge_calls (R := fun v w' => Ext w w' ∧ ((OkM L [] ∧ v = .tuple #[.int .i64 (judV L).1, .int .i64 (judV L).2, .int .i64 0]) ∨ (¬ OkM L [] ∧ v = .tuple #[.int .i64 0, .int .i64 0, .int .i64 1]))) ?_).mono fun e w' ⟨v, he, hx, h⟩ => by
    refine ⟨hx, ?_⟩
    rcases h with ⟨h1, h2⟩ | ⟨h1, h2⟩
    · exact .inl ⟨h1, by rw [he, h2]⟩
    · exact .inr ⟨h1, by rw [he, h2]⟩
  unfold revetmentref18_Judge
  refine (mayR_spec (L := L) (lost := []) (c := c0) (d := 0) (by simp) hL (by simp) hp (ints_nil w)).mono fun e w1 ⟨n, he, hx1, hok, hno⟩ => ⟨n, he, bne_t fun hn => ?_, bne_f fun hn => ?_⟩
  · have hk : ¬ OkM L [] := fun hk => hn (by rw [hok hk]; rfl)
    exact ⟨hx1, .inr ⟨hk, rfl⟩⟩
  have hk : OkM L [] := Classical.byContradiction fun h => by have := hno h; omega
  have n4 := hk.n4
  have n10 := hk.n10
  refine (sumR_spec hS (by omega) (by omega) hcl (hp.ext hx1)).mono fun e w2 ⟨he, hx2⟩ => ⟨_, _, he, ?_⟩
  have hx2 := hx1.trans hx2
  have hpl := synP_len hS
  have hql := synQ_len hS
  obtain ⟨ew2, ew1⟩ := wrap2 (n := L.length) (by omega) (by omega)
  simp only [ew2, ew1]
  have hjv : judV L = judPQ (synP L) (synQ L) (L.length - 2) := rfl
  generalize synP L = P at hpl hjv
  generalize synQ L = Q at hql hjv
  unfold judPQ at hjv
  have fin : ∀ (a b : Int) (w' : World), judV L = (a, b) → Ext w w' → Ext w w' ∧ ((OkM L [] ∧ (Value.tuple #[.int .i64 a, .int .i64 b, .int .i64 0]) = .tuple #[.int .i64 (judV L).1, .int .i64 (judV L).2, .int .i64 0]) ∨ (¬ OkM L [] ∧ (Value.tuple #[.int .i64 a, .int .i64 b, .int .i64 0]) = .tuple #[.int .i64 0, .int .i64 0, .int .i64 1])) := fun a b w' hj hT => ⟨hT, .inl ⟨hk, by rw [hj]⟩⟩
  refine Join.intro fun J hJ => ?_
  have loop : ∀ w3, Ext w w3 → zB P = false → zB Q = false → J [] w3 := by
    intro w3 hx3 hzp hzq
    rw [hzp, hzq] at hjv
    refine hJ _ _ ⟨rfl, ?_⟩
    refine ⟨fun vs w' => Ext w w' ∧ ∃ k : Nat, vs = [.int .i64 (k : Int)] ∧ k ≤ L.length - 2 ∧ ∀ j, j < k → mulX P j ≠ Q, fun vs _ => match vs with | [.int _ k] => (L.length - k).toNat | _ => 0, ⟨hx3, 0, rfl, by omega, fun j hj => by omega⟩, ?_⟩
    rintro vs w4 ⟨hx4, k, rfl, hk', hne⟩
    refine ⟨_, rfl, dec_t fun hlt => ?_, dec_f fun hge => ?_⟩
    · refine (expR_spec (k : Int) w4).mono fun e w5 ⟨he, hx5⟩ => ⟨_, he, ?_⟩
      refine (timesR_spec P _ (by omega) w5).mono fun e w6 ⟨he, hx6⟩ => ⟨_, he, ?_⟩
      have hx6 := (hx4.trans hx5).trans hx6
      rw [exI_pos (show k < 255 by omega)]
      have hm : timesL P (ex k) = mulX P k := rfl
      rw [hm, strB_toList, strB_toList]
      refine ⟨fun hy => ?_, fun hn => ⟨⟨hx6, k + 1, ?_, by omega, fun j hj => ?_⟩, ?_⟩⟩
      · have hy : mulX P k = Q := by simpa using hy
        rw [firstK_is (n := L.length - 2) (by omega) hy hne] at hjv
        exact fin _ _ _ hjv hx6
      · rw [wrap64 _ (by omega) (by omega)]; rfl
      · rcases Nat.lt_or_ge j k with h | h
        · exact hne j h
        · obtain rfl : j = k := by omega
          simpa using hn
      · show ((L.length : Int) - IntKind.i64.wrap ((k : Int) + 1)).toNat < ((L.length : Int) - (k : Int)).toNat
        rw [wrap64 _ (by omega) (by omega)]; omega
    · have hke : k = L.length - 2 := by omega
      subst hke
      have hf : firstK P Q (L.length - 2) = none := by
        unfold firstK
        rw [List.find?_range_eq_none]
        exact fun j hj => by simpa using hne j hj
      rw [hf] at hjv
      exact fin _ _ _ hjv hx4
  refine (zeroR_spec P (by omega) w2).mono fun e w3 ⟨he, hx3⟩ => ⟨_, he, ?_⟩
  have hx3 := hx2.trans hx3
  have eP : (P.all fun x => x == 0) = zB P := rfl
  have eQ : (Q.all fun x => x == 0) = zB Q := rfl
  rw [eP]
  have zq : ∀ w4, Calls Tryz.prog 29 #[.string (strB Q)] w4 fun e w' => e = .returned (.bool (zB Q)) ∧ Ext w4 w' := fun w4 => zeroR_spec Q (by omega) w4
  have zp : ∀ w4, Calls Tryz.prog 29 #[.string (strB P)] w4 fun e w' => e = .returned (.bool (zB P)) ∧ Ext w4 w' := fun w4 => zeroR_spec P (by omega) w4
  refine ⟨fun hP => ?_, fun hP => ?_⟩
  · refine (zq w3).mono fun e w4 ⟨he, hx4⟩ => ⟨_, he, fun hQ => ?_, fun hQ => ?_⟩
    · rw [hP, hQ] at hjv
      exact fin _ _ _ hjv (hx3.trans hx4)
    · rw [hP, hQ] at hjv
      refine (zq w4).mono fun e w5 ⟨he, hx5⟩ => ⟨_, he, fun h => absurd hQ (by rw [h]; simp), fun _ => ?_⟩
      refine (zp w5).mono fun e w6 ⟨he, hx6⟩ => ⟨_, he, fun _ => ?_, fun h => absurd hP (by rw [h]; simp)⟩
      exact fin _ _ _ hjv (((hx3.trans hx4).trans hx5).trans hx6)
  · refine (zq w3).mono fun e w4 ⟨he, hx4⟩ => ⟨_, he, fun hQ => ?_, fun hQ => ?_⟩
    · rw [hP, hQ] at hjv
      exact fin _ _ _ hjv (hx3.trans hx4)
    · refine (zp w4).mono fun e w5 ⟨he, hx5⟩ => ⟨_, he, fun h => absurd hP (by rw [h]; simp), fun _ => ?_⟩
      exact loop _ ((hx3.trans hx4).trans hx5) hP hQ
theorem repairR_spec {L : List Txt} (hS : Short L) (hL : L.length ≤ 1000) {p0 : Option Addr} {c0 : Nat} (hcl : L.length ≤ c0) {w : World} (hp : strsL w p0 L) :
    Calls Tryz.prog 17 #[.slice p0 L.length c0] w fun e w' => ∃ p c, e = .returned (.tuple #[.slice p (repF L).1.length c, .int .i64 (repF L).2.1, .int .i64 (repF L).2.2]) ∧ strsL w' p (repF L).1 ∧ (repF L).1.length ≤ c ∧ Ext w w' := by
  refine (revetmentref18_Repair_calls (R := fun v w' => ∃ p c, v = .tuple #[.slice p (repF L).1.length c, .int .i64 (repF L).2.1, .int .i64 (repF L).2.2] ∧ strsL w' p (repF L).1 ∧ (repF L).1.length ≤ c ∧ Ext w w') ?_).mono fun e w' ⟨v, he, p, c, hv, h⟩ => ⟨p, c, by rw [he, hv], h⟩
  unfold revetmentref18_Repair
  refine (judgeR_spec hS (by omega) hcl hp).mono fun e w1 ⟨hx1, h⟩ => ?_
  rcases h with ⟨hk, he⟩ | ⟨hk, he⟩
  rotate_left
  · refine ⟨_, _, _, he, yes rfl ⟨none, 0, ?_, ?_, ?_, hx1⟩⟩
    · unfold repF; rw [if_neg hk]; rfl
    · unfold repF; rw [if_neg hk]; exact strs_nil w1
    · unfold repF; rw [if_neg hk]; simp
  refine ⟨_, _, _, he, no rfl ?_⟩
  have n10 := hk.n10
  rcases judPQ_cases (synP L) (synQ L) (L.length - 2) with h | ⟨i, hi, h⟩ | h
  · have hj : judV L = (0, 0) := h
    have hr : repF L = (L, -1, 0) := by unfold repF; rw [if_pos hk, hj]; rfl
    rw [hj, hr]
    exact yes rfl ⟨p0, c0, rfl, hp.ext hx1, hcl, hx1⟩
  · have hj : judV L = (1, (i : Int)) := h
    have hr : repF L = (fillF L [(i : Int)], (i : Int), 0) := by unfold repF; rw [if_pos hk, hj]; rfl
    have hil : i < L.length := by have := hk.n4; omega
    rw [hj, hr]
    refine no rfl (no rfl ?_)
    refine Alloc.t (T.nil w1) fun k30 w3 h3 => ?_
    have h3 : T [] w1 w3 [rowP 3 1 (some k30) 1 1 (intsI [(i : Int)])] := blk_row h3 rfl rfl (by decide)
    refine (fillR_spec (L := L) (lost := [(i : Int)]) (c := c0) (d := 1) (by simp) (by omega) hS (by simp) (hp.ext (hx1.trans h3.chg.ext)) (T.ints h3 List.mem_cons_self).1).mono fun e w4 hr4 => ?_
    rcases hr4 with ⟨_, _, b, cap, he, h4⟩ | ⟨n, _, _, _, h60, _⟩
    · have hl := T.rowS h4 List.mem_cons_self
      refine ⟨_, _, _, _, he, some ⟨b, 0, none⟩, cap, ?_, hl.1, by have := hl.2.1; have := hl.2.2; show (fillF L [(i : Int)]).length ≤ cap; omega, (hx1.trans h3.chg.ext).trans h4.chg.ext⟩
      show _ = Value.tuple #[.slice _ (fillF L [(i : Int)]).length cap, _, _]
      rw [hl.2.1]
    · exact absurd (h60 (hk.lose hil)).1 (by simp)
  · have hj : judV L = (2, 0) := h
    have hr : repF L = ([], 0, 5) := by unfold repF; rw [if_pos hk, hj]; rfl
    rw [hj, hr]
    exact no rfl (yes rfl ⟨none, 0, rfl, strs_nil w1, by simp, hx1⟩)
theorem parityR_spec {L : List Txt} (hS : Short L) (hL : L.length ≤ 1000) {p0 : Option Addr} {c0 : Nat} (hcl : L.length ≤ c0) {w : World} (hp : strsL w p0 L) :
    Calls Tryz.prog 19 #[.slice p0 L.length c0] w fun e w' => ∃ p c, e = .returned (.tuple #[.slice p (parG L).1.length c, .int .i64 (parG L).2]) ∧ strsL w' p (parG L).1 ∧ (parG L).1.length ≤ c ∧ Ext w w' := by
  refine (revetmentref18_Parity_calls (R := fun v w' => ∃ p c, v = .tuple #[.slice p (parG L).1.length c, .int .i64 (parG L).2] ∧ strsL w' p (parG L).1 ∧ (parG L).1.length ≤ c ∧ Ext w w') ?_).mono fun e w' ⟨v, he, p, c, hv, h⟩ => ⟨p, c, by rw [he, hv], h⟩
  unfold revetmentref18_Parity
  refine (mayR_spec (L := L) (lost := []) (c := c0) (d := 0) (by simp) (by omega) (by simp) hp (ints_nil w)).mono fun e w2 ⟨n, he, hx2, hok, hno⟩ => ⟨n, he, bne_t fun hn => ?_, bne_f fun hn => ?_⟩
  · have hk : ¬ OkM L [] := fun hk => hn (by rw [hok hk]; rfl)
    refine ⟨none, 0, ?_, ?_, ?_, hx2⟩
    · unfold parG; rw [if_neg hk]; rfl
    · unfold parG; rw [if_neg hk]; exact strs_nil w2
    · unfold parG; rw [if_neg hk]; simp
  have hk : OkM L [] := Classical.byContradiction fun h => by have := hno h; omega
  have hr : parG L = (makeF (L.take (L.length - 2)), 0) := by unfold parG; rw [if_pos hk]
  have n4 := hk.n4
  have n10 := hk.n10
  rw [hr]
  have e2 := (wrap2 (n := L.length) (by omega) (by omega)).1
  refine ⟨p0, L.length - 2, c0, w2, by rw [e2, strs_to (by omega) (by omega) w2, Int.toNat_natCast], ?_⟩
  have htl : (L.take (L.length - 2)).length = L.length - 2 := by rw [List.length_take]; omega
  have f3 := makeR_spec (L := L.take (L.length - 2)) (c := c0) (by omega) (hS.take _) ((hp.ext hx2).take _)
  rw [htl] at f3
  refine f3.mono fun e w4 hr4 => ?_
  rcases hr4 with ⟨_, b, cap, he, h4⟩ | ⟨hno, _⟩
  · have hl := T.rowS h4 List.mem_cons_self
    refine ⟨_, _, _, _, he, some ⟨b, 0, none⟩, cap, ?_, hl.1, by have := hl.2.1; have := hl.2.2; show (makeF (L.take (L.length - 2))).length ≤ cap; omega, hx2.trans h4.chg.ext⟩
    show _ = Value.tuple #[.slice _ (makeF (L.take (L.length - 2))).length cap, _]
    rw [hl.2.1]
  · exact absurd (take_ok hk) hno
theorem repF_len {L : List Txt} (hL : L.length ≤ 1000) : (repF L).1.length ≤ 1000 := by
  unfold repF
  split
  · rename_i hk
    split
    · exact hL
    · split
      · simp
      · rename_i h0 h2
        rcases judPQ_cases (synP L) (synQ L) (L.length - 2) with h | ⟨i, hi, h⟩ | h
        · exact absurd (show (judV L).1 = 0 by unfold judV; rw [h]) h0
        · have hj : judV L = (1, (i : Int)) := h
          obtain ⟨m, _, hm⟩ := hk.all
          have n4 := hk.n4
          have := (fill_col (hk.lose (i := i) (by omega)) (by simp) (m := m) fun j hj _ => hm j hj).len
          rw [hj]
          show (fillF L [(i : Int)]).length ≤ _
          omega
        · exact absurd (show (judV L).1 = 2 by unfold judV; rw [h]) h2
  · simp
theorem parG_len {L : List Txt} (hL : L.length ≤ 1000) : (parG L).1.length ≤ 1002 := by
  unfold parG
  split
  · show (makeF _).length ≤ _
    rw [makeF_len, List.length_take]; omega
  · simp
theorem tellsS_law {l : List ByteArray} {p : Option Addr} {c : Nat} {w : World} (H : strsAt w p l) (hc : l.length ≤ c) :
    Ret Tryz.prog 5 #[.slice p l.length c] w (.bool true) := by
  refine ret_of (revetmentlaw18_ScrubTells_calls ?_)
  unfold revetmentlaw18_ScrubTells
  have hL := bls_strs H
  rw [← bls_len l] at hc ⊢
  generalize bls l = L at hL hc
  refine (heavyS_spec hL).mono fun e w1 ⟨he, hx1⟩ => ⟨_, he, fun hh => shownS_end hx1, fun hh => ?_⟩
  obtain ⟨h20, hS⟩ := heavyS_short hh
  refine (shownS_spec w1).mono fun e w3 ⟨he, hx3⟩ => ⟨_, he, no rfl ?_⟩
  have x3 := hx1.trans hx3
  refine (judge_spec hS (by omega) (c0 := c) hc (hL.ext x3)).mono fun e w5 ⟨hx5, h5⟩ => ?_
  have x5 := x3.trans hx5
  have e5 : ∃ a b k : Int, e = .returned (.tuple #[.int .i64 a, .int .i64 b, .int .i64 k]) ∧ (OkM L [] → a = (judV L).1 ∧ b = (judV L).2 ∧ k = 0) ∧ (¬ OkM L [] → a = 0 ∧ b = 0 ∧ k = 1) := by
    rcases h5 with ⟨h1, h2⟩ | ⟨h1, h2⟩
    · exact ⟨_, _, _, h2, fun _ => ⟨rfl, rfl, rfl⟩, fun h => absurd h1 h⟩
    · exact ⟨_, _, _, h2, fun h => absurd h h1, fun _ => ⟨rfl, rfl, rfl⟩⟩
  obtain ⟨a, b, k, he, o1, o2⟩ := e5
  refine ⟨_, _, _, he, ?_⟩
  refine (judgeR_spec hS (by omega) (c0 := c) hc (hL.ext x5)).mono fun e w6 ⟨hx6, h6⟩ => ?_
  have x6 := x5.trans hx6
  have e6 : e = .returned (.tuple #[.int .i64 a, .int .i64 b, .int .i64 k]) := by
    rcases h6 with ⟨h1, h2⟩ | ⟨h1, h2⟩
    · obtain ⟨rfl, rfl, rfl⟩ := o1 h1; exact h2
    · obtain ⟨rfl, rfl, rfl⟩ := o2 h1; exact h2
  refine ⟨_, _, _, e6, ?_⟩
  refine (repair_spec hS (by omega) (c0 := c) hc (hL.ext x6)).mono fun e w7 ⟨p7, c7, he7, s7, k7, hx7⟩ => ⟨_, _, _, _, _, he7, ?_⟩
  have x7 := x6.trans hx7
  refine (repairR_spec hS (by omega) (c0 := c) hc (hL.ext x7)).mono fun e w8 ⟨p8, c8, he8, s8, k8, hx8⟩ => ⟨_, _, _, _, _, he8, ?_⟩
  have x8 := x7.trans hx8
  refine (parity_spec hS (by omega) (c0 := c) hc (hL.ext x8)).mono fun e w9 ⟨p9, c9, he9, s9, k9, hx9⟩ => ⟨_, _, _, _, he9, ?_⟩
  have x9 := x8.trans hx9
  refine (parityR_spec hS (by omega) (c0 := c) hc (hL.ext x9)).mono fun e w10 ⟨p10, c10, he10, s10, k10, hx10⟩ => ⟨_, _, _, _, he10, ?_⟩
  have x10 := x9.trans hx10
  refine yes (by simp) (yes (by simp) (yes (by simp) ?_))
  have x8_10 := hx9.trans hx10
  refine (same_spec (A := (repF L).1) (B := (repF L).1) (c := c7) (d := c8) (by have := repF_len (L := L) (by omega); omega) (s7.ext (hx8.trans x8_10)) (s8.ext x8_10)).mono fun e w11 ⟨he, hx11⟩ => ⟨_, he, yes (decide_eq_true rfl) (yes (by simp) (yes (by simp) ?_))⟩
  refine (same_spec (A := (parG L).1) (B := (parG L).1) (c := c9) (d := c10) (by have := parG_len (L := L) (by omega); omega) (s9.ext (hx10.trans hx11)) (s10.ext hx11)).mono fun e w12 ⟨he, hx12⟩ => ⟨_, he, yes (decide_eq_true rfl) ⟨by simp, (x10.trans hx11).trans hx12⟩⟩
end Go.Proofs.YtdfkifgkccnaiaaGreatDoor
