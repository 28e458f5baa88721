import Derived.Test.YtdfkifgkccnaiaaGreatDoorSy2
import Derived.Test.YtdfkifgkccnaiaaGreatDoorLi2
/-! refill: May; kind, byP, byQ, both, parity. -/
namespace Go.Proofs.YtdfkifgkccnaiaaGreatDoor
open Go.Sh Go.RowKit
set_option linter.unusedVariables false
set_option linter.unusedSimpArgs false
set_option maxRecDepth 20000
set_option maxHeartbeats 1000000
abbrev Txt := List UInt8
/-- a row, of which these may be lost -/
structure OkM (L : List Txt) (lost : List Int) : Prop where
  n4 : 4 ≤ L.length
  n10 : L.length ≤ 10
  rng : ∀ x ∈ lost, 0 ≤ x ∧ x < (L.length : Int)
  nodup : lost.Nodup
  lens : ∃ m, m ≤ 4096 ∧ ∀ j, j < L.length → (j : Int) ∉ lost → (L.getD j []).length = m
def txts (L : List Txt) : List Value := L.map fun x => .string (strB x)
theorem txts_len (L : List Txt) : (txts L).length = L.length := List.length_map ..
theorem txts_set (L : List Txt) (i : Nat) (x : Txt) : (txts L).set i (.string (strB x)) = txts (L.set i x) := by simp [txts, List.map_set]
theorem nodup_take {l : List Int} (h : l.Nodup) (i : Nat) : (l.take i).Nodup := h.sublist (List.take_sublist i l)
theorem not_nodup {l : List Int} {i : Nat} (hi : i < l.length) (h : l[i] ∈ l.take i) : ¬ l.Nodup := fun hn => by
  have h1 : (l.take (i + 1)).Nodup := nodup_take hn _
  rw [List.take_add_one, List.getElem?_eq_getElem hi] at h1
  have := (List.nodup_append.1 h1).2.2
  exact this _ h _ (by simp) rfl
def seenL (n : Nat) (l : List Int) : List Value := (List.range n).map fun (j : Nat) => .bool (decide ((j : Int) ∈ l))
theorem seenL_get (n : Nat) (l : List Int) {j : Nat} (hj : j < n) : (seenL n l)[j]? = some (.bool (decide ((j : Int) ∈ l))) := by simp [seenL, hj]
theorem seenL_set (n : Nat) {l : List Int} {x : Int} (h0 : 0 ≤ x) : (seenL n l).set x.toNat (.bool true) = seenL n (l ++ [x]) := by
  apply List.ext_getElem?
  intro j
  rw [List.getElem?_set]
  by_cases hj : j < n
  · rw [seenL_get n (l ++ [x]) hj]
    by_cases e : x.toNat = j
    · rw [if_pos e, if_pos (by simp [seenL]; omega)]
      have : (j : Int) ∈ l ++ [x] := by simp; right; omega
      rw [decide_eq_true this]
    · rw [if_neg e, seenL_get n l hj]
      have : ((j : Int) ∈ l ++ [x]) ↔ (j : Int) ∈ l := by
        simp; omega
      congr 2
      exact decide_eq_decide.2 this.symm
  · by_cases e : x.toNat = j
    · rw [if_pos e, if_neg (by simp [seenL]; omega)]; simp [seenL, hj]
    · rw [if_neg e]; simp [seenL, hj]
theorem may_spec {L : List Txt} {lost : List Int} (hl : lost.length ≤ 1000000) (hL : L.length ≤ 1000000) (hS : Short L) {p q : Option Addr} {c d : Nat} {w : World} (hp : strsL w p L) (hq : intsL w q lost) :
    Calls Tryz.prog 23 #[.slice p L.length c, .slice q lost.length d] w fun e w' => ∃ n : Int, e = .returned (.int .i64 n) ∧ Ext w w' ∧ (OkM L lost → n = if lost.length > 2 then 60 else 0) ∧ (¬ OkM L lost → n = 1) := by
  refine (refill_May_calls (R := fun v w' => ∃ n : Int, v = .int .i64 n ∧ Ext w w' ∧ (OkM L lost → n = if lost.length > 2 then 60 else 0) ∧ (¬ OkM L lost → n = 1)) ?_).mono fun e w' ⟨v, he, n, hv, h⟩ => ⟨n, by rw [he, hv], h⟩
  unfold refill_May
  have bad : ∀ {w'}, Ext w w' → ¬ OkM L lost → ∃ n : Int, Value.int .i64 1 = .int .i64 n ∧ Ext w w' ∧ (OkM L lost → n = if lost.length > 2 then 60 else 0) ∧ (¬ OkM L lost → n = 1) := fun hx hn => ⟨1, rfl, hx, fun h => absurd h hn, fun _ => rfl⟩
  refine ⟨dec_t fun h => bad (.refl w) (fun hk => by have := hk.n4; omega), dec_f fun n4 => ⟨dec_t fun h => bad (.refl w) (fun hk => by have := hk.n10; omega), dec_f fun n10 => ?_⟩⟩
  obtain ⟨k, w1, hmk, h1⟩ := make_t (P := Tryz.prog) (t := 58) (e := 4) (i := Tryz.t4) (z := .bool false) (kl := .i64) (kc := .i64) (n := (L.length : Int)) (c := (L.length : Int)) (by kernel_rfl) (by kernel_rfl) (by kernel_rfl) (by kernel_rfl) (by rfl) (by kernel_rfl) (by omega) (by omega) (by omega) (T.nil w)
  simp only [Int.toNat_natCast] at hmk h1
  have h1 : T [] w w1 [rowP 4 1 (some k) L.length L.length (seenL L.length (lost.take 0))] := by
    have : List.replicate L.length ((Value.bool false).cells.getD 0 undef) = seenL L.length (lost.take 0) := by
      apply List.ext_getElem?
      intro j
      by_cases hj : j < L.length
      · rw [seenL_get _ _ hj]; simp [hj]; rfl
      · simp [seenL, hj]
    rw [← this]; exact h1
  refine ⟨_, _, _, w1, hmk, ?_⟩
  refine ⟨fun vs w' => ∃ i : Nat, vs = [.int .i64 (i : Int)] ∧ i ≤ lost.length ∧ (∀ x ∈ lost.take i, 0 ≤ x ∧ x < (L.length : Int)) ∧ (lost.take i).Nodup ∧ T [] w w' [rowP 4 1 (some k) L.length L.length (seenL L.length (lost.take i))], fun vs _ => match vs with | [.int _ i] => (lost.length - i).toNat | _ => 0, ⟨0, rfl, by omega, by simp, by simp, h1⟩, ?_⟩
  rintro vs w2 ⟨i, rfl, hi, hr, hnd, h2⟩
  refine ⟨_, rfl, dec_t fun hlt => ?_, dec_f fun hge => ?_⟩
  · have hlt : i < lost.length := by omega
    obtain ⟨a, ha, hc⟩ := (hq.ext h2.chg.ext).get hlt
    have hg : lost.getD i 0 = lost[i] := by simp [List.getD, hlt]
    rw [hg] at hc
    have hmem : lost[i] ∈ lost := List.getElem_mem hlt
    refine ⟨a, ha, by omega, by omega, _, by rw [Int.toNat_natCast]; exact hc, dec_t fun h => bad h2.chg.ext (fun hk => by have := hk.rng _ hmem; omega), dec_f fun x0 => ⟨dec_t fun h => bad h2.chg.ext (fun hk => by have := hk.rng _ hmem; omega), dec_f fun x1 => ?_⟩⟩
    have hxn : lost[i].toNat < L.length := by omega
    have hcell := seenL_get L.length (lost.take i) hxn
    rw [show ((lost[i].toNat : Nat) : Int) = lost[i] by omega] at hcell
    refine ⟨⟨k, 0, none⟩, rfl, by omega, by omega, _, by rw [addr_add, Nat.zero_add, Nat.mul_one]; exact rowP.cell (h2.says List.mem_cons_self) hcell, dec_t fun hm => bad h2.chg.ext (fun hk => not_nodup hlt hm hk.nodup), dec_f fun hm => ⟨⟨k, 0, none⟩, rfl, by omega, by omega, ?_⟩⟩
    rw [addr_add, Nat.zero_add, Nat.mul_one]
    refine StRow.t h2 .head (by simp [seenL]; omega) rfl fun w3 h3 => ?_
    have htk : lost.take (i + 1) = lost.take i ++ [lost[i]] := by rw [List.take_add_one, List.getElem?_eq_getElem hlt]; rfl
    rw [seenL_set _ (by omega), ← htk] at h3
    refine ⟨⟨i + 1, ?_, by omega, ?_, ?_, h3⟩, ?_⟩
    · rw [wrap64 _ (by omega) (by omega)]; rfl
    · rw [htk]
      intro x hx
      rcases List.mem_append.1 hx with hx | hx
      · exact hr x hx
      · obtain rfl := List.mem_singleton.1 hx
        omega
    · rw [htk, List.nodup_append]
      refine ⟨hnd, by simp, fun x hx y hy => ?_⟩
      obtain rfl := List.mem_singleton.1 hy
      exact fun e => hm (e ▸ hx)
    · show ((lost.length : Int) - IntKind.i64.wrap ((i : Int) + 1)).toNat < ((lost.length : Int) - (i : Int)).toNat
      rw [wrap64 _ (by omega) (by omega)]; omega
  · have hie : i = lost.length := by omega
    subst hie
    rw [List.take_length] at hr hnd h2
    refine ⟨fun vs w' => ∃ (i : Nat) (n8 : Int), vs = [.int .i64 n8, .int .i64 (i : Int)] ∧ i ≤ L.length ∧ w' = w2 ∧ ((n8 = -1 ∧ ∀ j, j < i → (j : Int) ∈ lost) ∨ ∃ m : Nat, m ≤ 4096 ∧ n8 = m ∧ (∃ j, j < i ∧ (j : Int) ∉ lost) ∧ ∀ j, j < i → (j : Int) ∉ lost → (L.getD j []).length = m), fun vs _ => match vs with | [_, .int _ i] => (L.length - i).toNat | _ => 0, ⟨0, -1, rfl, by omega, rfl, .inl ⟨rfl, fun j h => by omega⟩⟩, ?_⟩
    rintro vs w3 ⟨i, n8, rfl, hi, rfl, hinv⟩
    refine ⟨_, _, rfl, dec_t fun hlt => ?_, dec_f fun hge => ?_⟩
    · have hlt : i < L.length := by omega
      obtain ⟨a, ha, hc⟩ := (hp.ext h2.chg.ext).get hlt
      have hsi := hS.get i
      have hms : ((L.length : Int) - IntKind.i64.wrap ((i : Int) + 1)).toNat < ((L.length : Int) - (i : Int)).toNat := by rw [wrap64 _ (by omega) (by omega)]; omega
      have hnx : IntKind.i64.wrap ((i : Int) + 1) = ((i + 1 : Nat) : Int) := by rw [wrap64 _ (by omega) (by omega)]; omega
      refine ⟨a, ha, by omega, by omega, _, by rw [Int.toNat_natCast]; exact hc, ⟨k, 0, none⟩, rfl, by omega, by omega, _, by rw [addr_add, Nat.zero_add, Nat.mul_one, Int.toNat_natCast]; exact rowP.cell (h2.says List.mem_cons_self) (seenL_get _ _ hlt), dec_t fun hm => ?_, dec_f fun hm => Join.intro fun J hJ => ?_⟩
      · refine ⟨⟨i + 1, n8, by rw [hnx], by omega, rfl, ?_⟩, hms⟩
        rcases hinv with ⟨h8, h⟩ | ⟨m, hm4, h8, ⟨j, hj, hjl⟩, h⟩
        · exact .inl ⟨h8, fun j hj => by
            rcases Nat.lt_or_ge j i with h' | h'
            · exact h j h'
            · obtain rfl : j = i := by omega
              exact hm⟩
        · exact .inr ⟨m, hm4, h8, ⟨j, by omega, hjl⟩, fun j hj hl => by
            rcases Nat.lt_or_ge j i with h' | h'
            · exact h j h' hl
            · obtain rfl : j = i := by omega
              exact absurd hm hl⟩
      · rw [strB_size]
        have good : (L.getD i []).length ≤ 4096 → (∀ j, j < i → (j : Int) ∉ lost → (L.getD j []).length = (L.getD i []).length) → J [.bool false] w3 := fun h4 heq => by
          refine hJ _ _ ⟨_, rfl, fun e => (by cases e), fun _ => ⟨⟨i + 1, ((L.getD i []).length : Int), by rw [hnx, strB_size], by omega, rfl, .inr ⟨_, h4, rfl, ⟨i, by omega, hm⟩, fun j hj hl => ?_⟩⟩, hms⟩⟩
          rcases Nat.lt_or_ge j i with h' | h'
          · exact heq j h' hl
          · obtain rfl : j = i := by omega
            rfl
        have evil : ¬ OkM L lost → J [.bool true] w3 := fun hn => hJ _ _ ⟨_, rfl, fun _ => bad h2.chg.ext hn, fun e => (by cases e)⟩
        have last : (∀ j, j < i → (j : Int) ∉ lost → (L.getD j []).length = (L.getD i []).length) → J [.bool (decide (((L.getD i []).length : Int) > 4096))] w3 := fun heq => by
          by_cases h4 : (L.getD i []).length ≤ 4096
          · rw [decide_eq_false (by omega)]; exact good h4 heq
          · rw [decide_eq_true (by omega)]
            refine evil fun hk => ?_
            obtain ⟨m, hm4, h⟩ := hk.lens
            have := h i hlt hm
            omega
        rcases hinv with ⟨h8, h⟩ | ⟨m, hm4, h8, ⟨j, hj, hjl⟩, h⟩
        · subst h8
          exact no rfl (last fun j hj hl => absurd (h j hj) hl)
        · subst h8
          refine yes (decide_eq_true (by omega)) ⟨bne_t fun hne => evil fun hk => ?_, bne_f fun he => last fun j' hj' hl' => ?_⟩
          · obtain ⟨m', hm4', h'⟩ := hk.lens
            have e1 := h' i hlt hm
            have e2 := h' j (by omega) hjl
            have e3 := h j hj hjl
            omega
          · have := h j' hj' hl'; omega
    · have hie : i = L.length := by omega
      subst hie
      have hk : OkM L lost := ⟨by omega, by omega, hr, hnd, by
        rcases hinv with ⟨h8, h⟩ | ⟨m, hm4, h8, _, h⟩
        · exact ⟨0, by omega, fun j hj hl => absurd (h j hj) hl⟩
        · exact ⟨m, hm4, h⟩⟩
      refine ⟨dec_t fun h => ⟨60, rfl, h2.chg.ext, fun _ => by rw [if_pos (by omega)], fun hn => absurd hk hn⟩, dec_f fun h => ⟨0, rfl, h2.chg.ext, fun _ => by rw [if_neg (by omega)], fun hn => absurd hk hn⟩⟩
end Go.Proofs.YtdfkifgkccnaiaaGreatDoor
