import Derived.Test.YtdfkifgkccnaiaaGreatDoorSc2
/-! scrub: Repair, Parity. -/
namespace Go.Proofs.YtdfkifgkccnaiaaGreatDoor
open Go.Sh Go.RowKit
set_option linter.unusedVariables false
set_option linter.unusedSimpArgs false
set_option maxRecDepth 20000
set_option maxHeartbeats 2000000
theorem OkM.all {L : List Txt} (h : OkM L []) : ∃ m, m ≤ 4096 ∧ AllLen L m := by
  obtain ⟨m, h4, hm⟩ := h.lens
  exact ⟨m, h4, fun j hj => hm j hj (by simp)⟩
theorem OkM.lose {L : List Txt} (h : OkM L []) {i : Nat} (hi : i < L.length) : OkM L [(i : Int)] := by
  obtain ⟨m, h4, hm⟩ := h.lens
  exact ⟨h.n4, h.n10, fun x hx => by simp at hx; omega, by simp, m, h4, fun j hj _ => hm j hj (by simp)⟩
/-- which verdict, and which column -/
theorem judPQ_cases (P Q : Txt) (n : Nat) : judPQ P Q n = (0, 0) ∨ (∃ i : Nat, i ≤ n + 1 ∧ judPQ P Q n = (1, (i : Int))) ∨ judPQ P Q n = (2, 0) := by
  unfold judPQ
  cases hP : zB P with
  | true =>
    cases hQ : zB Q with
    | true => exact .inl rfl
    | false => exact .inr (.inl ⟨n + 1, by omega, rfl⟩)
  | false =>
    cases hQ : zB Q with
    | true => exact .inr (.inl ⟨n, by omega, rfl⟩)
    | false =>
      cases hf : firstK P Q n with
      | none => exact .inr (.inr rfl)
      | some k => exact .inr (.inl ⟨k, by have := (firstK_some hf).1; omega, rfl⟩)
open Classical in
noncomputable def repF (L : List Txt) : List Txt × Int × Int :=
  if OkM L [] then (if (judV L).1 = 0 then (L, -1, 0) else if (judV L).1 = 2 then ([], 0, 5) else (fillF L [(judV L).2], (judV L).2, 0)) else ([], 0, 1)
open Classical in
noncomputable def parG (L : List Txt) : List Txt × Int := if OkM L [] then (makeF (L.take (L.length - 2)), 0) else ([], 1)
theorem strs_nil (w : World) : strsL w none [] := ⟨fun h => absurd rfl h, fun a ha => by cases ha⟩
theorem ints_nil (w : World) : intsL w none [] := ⟨fun h => absurd rfl h, fun a ha => by cases ha⟩
theorem repair_spec {L : List Txt} (hS : Short L) (hL : L.length ≤ 1000000) {p0 : Option Addr} {c0 : Nat} (hcl : L.length ≤ c0) {w : World} (hp : strsL w p0 L) :
    Calls Tryz.prog 12 #[.slice p0 L.length c0] w fun e w' => ∃ p c, e = .returned (.tuple #[.slice p (repF L).1.length c, .int .i64 (repF L).2.1, .int .i64 (repF L).2.2]) ∧ strsL w' p (repF L).1 ∧ (repF L).1.length ≤ c ∧ Ext w w' := by
  refine (scrub_Repair_calls (R := fun v w' => ∃ p c, v = .tuple #[.slice p (repF L).1.length c, .int .i64 (repF L).2.1, .int .i64 (repF L).2.2] ∧ strsL w' p (repF L).1 ∧ (repF L).1.length ≤ c ∧ Ext w w') ?_).mono fun e w' ⟨v, he, p, c, hv, h⟩ => ⟨p, c, by rw [he, hv], h⟩
  unfold scrub_Repair
  refine (judge_spec hS hL hcl hp).mono fun e w1 ⟨hx1, h⟩ => ?_
  rcases h with ⟨hk, he⟩ | ⟨hk, he⟩
  rotate_left
  · refine ⟨_, _, _, he, yes rfl ⟨none, 0, ?_, ?_, ?_, hx1⟩⟩
    · unfold repF; rw [if_neg hk]; rfl
    · unfold repF; rw [if_neg hk]; exact strs_nil w1
    · unfold repF; rw [if_neg hk]; simp
  refine ⟨_, _, _, he, no rfl ?_⟩
  have n10 := hk.n10
  rcases judPQ_cases (synP L) (synQ L) (L.length - 2) with h | ⟨i, hi, h⟩ | h
  · have hj : judV L = (0, 0) := h
    have hr : repF L = (L, -1, 0) := by unfold repF; rw [if_pos hk, hj]; rfl
    rw [hj, hr]
    refine yes rfl ?_
    refine (clone_spec (by omega) (T.nil w1) (hp.ext hx1)).mono fun e w2 ⟨g, cap, he, h2⟩ => ⟨_, _, _, he, ptr g, cap, rfl, ?_, ?_, hx1.trans h2.chg.ext⟩
    · exact (T.strs h2 List.mem_cons_self).1
    · exact (T.strs h2 List.mem_cons_self).2.2
  · have hj : judV L = (1, (i : Int)) := h
    have hr : repF L = (fillF L [(i : Int)], (i : Int), 0) := by unfold repF; rw [if_pos hk, hj]; rfl
    have hil : i < L.length := by have := hk.n4; omega
    rw [hj, hr]
    refine no rfl (no rfl ?_)
    refine Alloc.t (T.nil w1) fun k30 w3 h3 => ?_
    have h3 : T [] w1 w3 [rowP 3 1 (some k30) 1 1 (intsI [(i : Int)])] := blk_row h3 rfl rfl (by decide)
    refine (fill_spec (L := L) (lost := [(i : Int)]) (c := c0) (d := 1) (by simp) (by omega) hS (hp.ext (hx1.trans h3.chg.ext)) (T.ints h3 List.mem_cons_self).1).mono fun e w4 hr4 => ?_
    rcases hr4 with ⟨_, _, b, cap, he, h4⟩ | ⟨n, _, _, _, h60, _⟩
    · have hl := T.rowS h4 List.mem_cons_self
      refine ⟨_, _, _, _, he, some ⟨b, 0, none⟩, cap, ?_, hl.1, by have := hl.2.1; have := hl.2.2; show (fillF L [(i : Int)]).length ≤ cap; omega, (hx1.trans h3.chg.ext).trans h4.chg.ext⟩
      show _ = Value.tuple #[.slice _ (fillF L [(i : Int)]).length cap, _, _]
      rw [hl.2.1]
    · exact absurd (h60 (hk.lose hil)).1 (by simp)
  · have hj : judV L = (2, 0) := h
    have hr : repF L = ([], 0, 5) := by unfold repF; rw [if_pos hk, hj]; rfl
    rw [hj, hr]
    exact no rfl (yes rfl ⟨none, 0, rfl, strs_nil w1, by simp, hx1⟩)
theorem take_ok {L : List Txt} (hk : OkM L []) : OkM (makeF (L.take (L.length - 2))) [] := by
  obtain ⟨m, h4, hm⟩ := hk.all
  have n4 := hk.n4
  have n10 := hk.n10
  refine makeF_ok (m := m) (fun j hj => ?_) h4 (by rw [List.length_take]; omega) (by rw [List.length_take]; omega)
  rw [List.length_take] at hj
  rw [take_get _ _ _ (by omega)]
  exact hm j (by omega)
theorem parity_spec {L : List Txt} (hS : Short L) (hL : L.length ≤ 1000000) {p0 : Option Addr} {c0 : Nat} (hcl : L.length ≤ c0) {w : World} (hp : strsL w p0 L) :
    Calls Tryz.prog 18 #[.slice p0 L.length c0] w fun e w' => ∃ p c, e = .returned (.tuple #[.slice p (parG L).1.length c, .int .i64 (parG L).2]) ∧ strsL w' p (parG L).1 ∧ (parG L).1.length ≤ c ∧ Ext w w' := by
  refine (scrub_Parity_calls (R := fun v w' => ∃ p c, v = .tuple #[.slice p (parG L).1.length c, .int .i64 (parG L).2] ∧ strsL w' p (parG L).1 ∧ (parG L).1.length ≤ c ∧ Ext w w') ?_).mono fun e w' ⟨v, he, p, c, hv, h⟩ => ⟨p, c, by rw [he, hv], h⟩
  unfold scrub_Parity
  refine Alloc.t (T.nil w) fun k1 w1 h1 => ⟨_, _, _, h1.ld (b := k1) (by repeat (first | exact List.Mem.head _ | refine List.Mem.tail _ ?_)) rfl, ?_⟩
  have hm := may_spec (L := L) (lost := []) (c := c0) (d := 0) (by simp) hL hS (hp.ext h1.chg.ext) (ints_nil w1)
  refine hm.mono fun e w2 ⟨n, he, hx2, hok, hno⟩ => ⟨n, he, bne_t fun hn => ?_, bne_f fun hn => ?_⟩
  · have hk : ¬ OkM L [] := fun hk => hn (by rw [hok hk]; rfl)
    refine ⟨none, 0, ?_, ?_, ?_, h1.chg.ext.trans hx2⟩
    · unfold parG; rw [if_neg hk]; rfl
    · unfold parG; rw [if_neg hk]; exact strs_nil w2
    · unfold parG; rw [if_neg hk]; simp
  have hk : OkM L [] := Classical.byContradiction fun h => by have := hno h; omega
  have hr : parG L = (makeF (L.take (L.length - 2)), 0) := by unfold parG; rw [if_pos hk]
  have n4 := hk.n4
  have n10 := hk.n10
  rw [hr]
  have h2 := h1.quiet hx2
  refine (scrub_Parity_1_calls (R := fun v w' => v = .slice p0 (L.length - 2) c0 ∧ T [] w w' [blk k1 #[.slice p0 L.length c0] 22]) ?_).mono ?_
  · unfold scrub_Parity_1
    refine ⟨_, _, _, h2.ld (b := k1) (by repeat (first | exact List.Mem.head _ | refine List.Mem.tail _ ?_)) rfl, _, _, _, h2.ld (b := k1) (by repeat (first | exact List.Mem.head _ | refine List.Mem.tail _ ?_)) rfl, _, _, _, w2, strs_to (by rw [(wrap2 (n := L.length) (by omega) (by omega)).1]; omega) (by rw [(wrap2 (n := L.length) (by omega) (by omega)).1]; omega) w2, ?_, h2⟩
    rw [(wrap2 (n := L.length) (by omega) (by omega)).1, Int.toNat_natCast]
  rintro e w3 ⟨v, he, rfl, h3⟩
  refine ⟨_, _, _, he, ?_⟩
  have htl : (L.take (L.length - 2)).length = L.length - 2 := by rw [List.length_take]; omega
  have f3 := make_spec (L := L.take (L.length - 2)) (c := c0) (by omega) (hS.take _) (by omega) ((hp.ext h3.chg.ext).take _)
  rw [htl] at f3
  refine f3.mono fun e w4 hr4 => ?_
  rcases hr4 with ⟨_, b, cap, he, h4⟩ | ⟨hno, _⟩
  · have hl := T.rowS h4 List.mem_cons_self
    refine ⟨_, _, _, _, he, some ⟨b, 0, none⟩, cap, ?_, hl.1, by have := hl.2.1; have := hl.2.2; show (makeF (L.take (L.length - 2))).length ≤ cap; omega, h3.chg.ext.trans h4.chg.ext⟩
    show _ = Value.tuple #[.slice _ (makeF (L.take (L.length - 2))).length cap, _]
    rw [hl.2.1]
  · exact absurd (take_ok hk) hno
end Go.Proofs.YtdfkifgkccnaiaaGreatDoor
