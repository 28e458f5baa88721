import Derived.Test.YtignilchdffafaaGreatRt4
import Derived.Test.YtignilchdffafaaGreatLa4
/-! law06: RefillTells. -/
namespace Go.Proofs.YtignilchdffafaaGreat
open Go.Sh Go.RowKit
set_option linter.unusedVariables false
set_option linter.unusedSimpArgs false
set_option maxRecDepth 20000
set_option maxHeartbeats 2000000
/-- what Fill, or Make, answers: a row, or none and its error -/
def Ans (w w' : World) (e : Ending) (G : Option (List Txt)) (x : Int) : Prop :=
  match G with
  | some G => x = 0 ∧ ∃ b cap, e = .returned (.tuple #[.slice (some ⟨b, 0, none⟩) G.length cap, .int .i64 0]) ∧ T [] w w' [rowP 9 1 (some b) G.length cap (txts G)]
  | none => e = .returned (.tuple #[.slice none 0 0, .int .i64 x]) ∧ Ext w w'
theorem ans_ext {w w' : World} {e : Ending} {G : Option (List Txt)} {x : Int} (h : Ans w w' e G x) : Ext w w' := by
  cases G with
  | none => exact h.2
  | some G => obtain ⟨_, _, _, _, h⟩ := h; exact h.chg.ext
theorem ans_strs {w w' : World} {e : Ending} {G : Option (List Txt)} {x : Int} (h : Ans w w' e G x) : ∃ p c, e = .returned (.tuple #[.slice p (G.getD []).length c, .int .i64 x]) ∧ strsL w' p (G.getD []) := by
  cases G with
  | none => exact ⟨none, 0, h.1, fun hn => absurd rfl hn, fun a ha => by cases ha⟩
  | some G =>
    obtain ⟨rfl, b, cap, he, hT⟩ := h
    exact ⟨_, cap, he, (T.rowS hT List.mem_cons_self).1⟩
/-- what both Fills answer -/
theorem fill_ans {L : List Txt} {lost : List Int} {w w' : World} {e : Ending} (h : (OkM L lost ∧ lost.length ≤ 2 ∧ ∃ b cap, e = .returned (.tuple #[.slice (some ⟨b, 0, none⟩) L.length cap, .int .i64 0]) ∧ T [] w w' [rowP 9 1 (some b) L.length cap (txts (fillF L lost))]) ∨
      (∃ n : Int, n ≠ 0 ∧ e = .returned (.tuple #[.slice none 0 0, .int .i64 n]) ∧ Ext w w' ∧ (OkM L lost → 2 < lost.length ∧ n = 60) ∧ (¬ OkM L lost → n = 1))) :
    ∃ (G : Option (List Txt)) (x : Int), Ans w w' e G x ∧ (OkM L lost ∧ lost.length ≤ 2 → G = some (fillF L lost) ∧ x = 0) ∧ (OkM L lost ∧ ¬ lost.length ≤ 2 → G = none ∧ x = 60) ∧ (¬ OkM L lost → G = none ∧ x = 1) := by
  rcases h with ⟨h1, h2, b, cap, he, hT⟩ | ⟨n, hn, he, hx, hy, hz⟩
  · refine ⟨some (fillF L lost), 0, ⟨rfl, b, cap, ?_, ?_⟩, fun _ => ⟨rfl, rfl⟩, fun h => absurd h2 h.2, fun h => absurd h1 h⟩
    · have hl := (T.rowS hT List.mem_cons_self).2.1
      rw [hl]; exact he
    · have hl := (T.rowS hT List.mem_cons_self).2.1
      rw [hl]; exact hT
  · exact ⟨none, n, ⟨he, hx⟩, fun h => by have := hy h.1; omega, fun h => ⟨rfl, (hy h.1).2⟩, fun h => ⟨rfl, hz h⟩⟩
theorem make_ans {L : List Txt} {w w' : World} {e : Ending} (h : (OkM (makeF L) [] ∧ ∃ b cap, e = .returned (.tuple #[.slice (some ⟨b, 0, none⟩) (L.length + 2) cap, .int .i64 0]) ∧ T [] w w' [rowP 9 1 (some b) (L.length + 2) cap (txts (makeF L))]) ∨
      (¬ OkM (makeF L) [] ∧ e = .returned (.tuple #[.slice none 0 0, .int .i64 1]) ∧ Ext w w')) :
    ∃ (G : Option (List Txt)) (x : Int), Ans w w' e G x ∧ (OkM (makeF L) [] → G = some (makeF L) ∧ x = 0) ∧ (¬ OkM (makeF L) [] → G = none ∧ x = 1) := by
  rcases h with ⟨h1, b, cap, he, hT⟩ | ⟨hn, he, hx⟩
  · refine ⟨some (makeF L), 0, ⟨rfl, b, cap, ?_, ?_⟩, fun _ => ⟨rfl, rfl⟩, fun h => absurd h1 h⟩
    · rw [makeF_len]; exact he
    · rw [makeF_len]; exact hT
  · exact ⟨none, 1, ⟨he, hx⟩, fun h => absurd h hn, fun _ => ⟨rfl, rfl⟩⟩
theorem tells_law {l : List ByteArray} {lost : List Int} {p q : Option Addr} {c d : Nat} {w : World} (H : strsAt w p l) (hc : l.length ≤ c) (Hq : intsL w q lost) (hd : lost.length ≤ d) :
    Ret Tryz.prog 4 #[.slice p l.length c, .slice q lost.length d] w (.bool true) := by
  refine ret_of (revetmentlaw06_RefillTells_calls ?_)
  unfold revetmentlaw06_RefillTells
  have hL := bls_strs H
  rw [← bls_len l] at hc ⊢
  generalize bls l = L at hL hc
  refine (heavy_spec (n := lost.length) hL).mono fun e w1 ⟨he, hx1⟩ => ⟨_, he, fun hh => shown_end hx1, fun hh => ?_⟩
  obtain ⟨h20, hl20, hS, _⟩ := heavy_short hh
  refine (shown_spec w1).mono fun e w3 ⟨he, hx3⟩ => ⟨_, he, no rfl ?_⟩
  have x3 := hx1.trans hx3
  refine (fill_spec (L := L) (lost := lost) (by omega) (by omega) hS (c := c) (d := d) (hL.ext x3) (Hq.ext x3)).mono fun e w5 h => ?_
  obtain ⟨G1, y1, a1, ok1, lo1, no1⟩ := fill_ans h
  have x5 := x3.trans (ans_ext a1)
  obtain ⟨p1, c1, he1, s1⟩ := ans_strs a1
  refine ⟨_, _, _, _, he1, ?_⟩
  refine (fillR_spec (L := L) (lost := lost) (by omega) (by omega) hS (c := c) (d := d) hd (hL.ext x5) (Hq.ext x5)).mono fun e w6 h => ?_
  obtain ⟨G2, y2, a2, ok2, lo2, no2⟩ := fill_ans h
  have x6 := x5.trans (ans_ext a2)
  obtain ⟨p2, c2, he2, s2⟩ := ans_strs a2
  refine ⟨_, _, _, _, he2, ?_⟩
  have e12 : G2 = G1 ∧ y2 = y1 := by
    by_cases hk : OkM L lost
    · by_cases h2 : lost.length ≤ 2
      · rw [(ok1 ⟨hk, h2⟩).1, (ok2 ⟨hk, h2⟩).1, (ok1 ⟨hk, h2⟩).2, (ok2 ⟨hk, h2⟩).2]; exact ⟨rfl, rfl⟩
      · rw [(lo1 ⟨hk, h2⟩).1, (lo2 ⟨hk, h2⟩).1, (lo1 ⟨hk, h2⟩).2, (lo2 ⟨hk, h2⟩).2]; exact ⟨rfl, rfl⟩
    · rw [(no1 hk).1, (no2 hk).1, (no1 hk).2, (no2 hk).2]; exact ⟨rfl, rfl⟩
  obtain ⟨rfl, rfl⟩ := e12
  have hG2 : (G2.getD []).length ≤ 1000 := by
    by_cases hk : OkM L lost
    · by_cases h2 : lost.length ≤ 2
      · rw [(ok1 ⟨hk, h2⟩).1]
        obtain ⟨m, _, hm⟩ := hk.lens
        have := (fill_col hk h2 hm).len
        show (fillF L lost).length ≤ _
        omega
      · rw [(lo1 ⟨hk, h2⟩).1]; simp
    · rw [(no1 hk).1]; simp
  refine (make_spec (L := L) (by omega) hS (c := c) hc (hL.ext x6)).mono fun e w7 h => ?_
  obtain ⟨G3, y3, a3, ok3, no3⟩ := make_ans h
  have x7 := x6.trans (ans_ext a3)
  obtain ⟨p3, c3, he3, s3⟩ := ans_strs a3
  refine ⟨_, _, _, _, he3, ?_⟩
  refine (makeR_spec (L := L) (by omega) hS (c := c) (hL.ext x7)).mono fun e w8 h => ?_
  obtain ⟨G4, y4, a4, ok4, no4⟩ := make_ans h
  have x8 := x7.trans (ans_ext a4)
  obtain ⟨p4, c4, he4, s4⟩ := ans_strs a4
  refine ⟨_, _, _, _, he4, ?_⟩
  have e34 : G4 = G3 ∧ y4 = y3 := by
    by_cases hk : OkM (makeF L) []
    · rw [(ok3 hk).1, (ok4 hk).1, (ok3 hk).2, (ok4 hk).2]; exact ⟨rfl, rfl⟩
    · rw [(no3 hk).1, (no4 hk).1, (no3 hk).2, (no4 hk).2]; exact ⟨rfl, rfl⟩
  obtain ⟨rfl, rfl⟩ := e34
  have hG4 : (G4.getD []).length ≤ 1000 := by
    by_cases hk : OkM (makeF L) []
    · rw [(ok3 hk).1]
      show (makeF L).length ≤ _
      rw [makeF_len]; omega
    · rw [(no3 hk).1]; simp
  have x58 : Ext w5 w8 := (ans_ext a2).trans ((ans_ext a3).trans (ans_ext a4))
  have x68 : Ext w6 w8 := (ans_ext a3).trans (ans_ext a4)
  refine (same_spec (A := G2.getD []) (B := G2.getD []) (c := c1) (d := c2) (by omega) (s1.ext x58) (s2.ext x68)).mono fun e w9 ⟨he, hx9⟩ => ⟨_, he, yes (decide_eq_true rfl) (yes (by simp) ?_)⟩
  refine (same_spec (A := G4.getD []) (B := G4.getD []) (c := c3) (d := c4) (by omega) (s3.ext ((ans_ext a4).trans hx9)) (s4.ext hx9)).mono fun e w10 ⟨he, hx10⟩ => ⟨_, he, yes (decide_eq_true rfl) (yes (by simp) ?_)⟩
  have x10 := x8.trans (hx9.trans hx10)
  refine (may_spec (L := L) (lost := lost) (by omega) (by omega) hS (c := c) (d := d) (hL.ext x10) (Hq.ext x10)).mono fun e w11 ⟨n, he, hx11, hok, hno⟩ => ⟨n, he, ?_⟩
  have x11 := x10.trans hx11
  refine (mayR_spec (L := L) (lost := lost) (by omega) (by omega) (c := c) (d := d) hd (hL.ext x11) (Hq.ext x11)).mono fun e w12 ⟨n', he, hx12, hok', hno'⟩ => ⟨n', he, ?_, x11.trans hx12⟩
  have : n = n' := by
    by_cases hk : OkM L lost
    · rw [hok hk, hok' hk]
    · rw [hno hk, hno' hk]
  rw [this]
  simp
end Go.Proofs.YtignilchdffafaaGreat
