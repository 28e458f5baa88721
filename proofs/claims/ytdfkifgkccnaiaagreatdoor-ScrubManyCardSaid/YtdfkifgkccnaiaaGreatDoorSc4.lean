import Derived.Test.YtdfkifgkccnaiaaGreatDoorSc3
import Derived.Test.YtdfkifgkccnaiaaGreatDoorRf1
/-! scrub, in plain words: what is judged, and repaired, of rows that were good. -/
namespace Go.Proofs.YtdfkifgkccnaiaaGreatDoor
open Go.Sh Go.RowKit
set_option linter.unusedVariables false
set_option linter.unusedSimpArgs false
set_option maxRecDepth 20000
set_option maxHeartbeats 2000000
theorem zB_iff (l : Txt) : zB l = true ↔ ∀ j, j < l.length → l.getD j 0 = 0 := by
  unfold zB
  rw [List.all_eq_true]
  constructor
  · intro hA j hj
    have := hA l[j] (List.getElem_mem hj)
    simpa [List.getD, hj] using this
  · intro hA x hx
    obtain ⟨j, hj, rfl⟩ := List.getElem_of_mem hx
    have := hA j hj
    simpa [List.getD, hj] using this
theorem synP_zero (L : List Txt) (j : Nat) : (synP L).getD j 0 = 0 ↔ PRel (col L j) (L.length - 2) := by
  rw [synP_col, UInt8.xor_eq_zero_iff]
  exact ⟨fun h => h.symm, fun h => h.symm⟩
theorem synQ_zero (L : List Txt) (h2 : 2 ≤ L.length) (j : Nat) : (synQ L).getD j 0 = 0 ↔ QRel (col L j) (L.length - 2) := by
  rw [synQ_col, UInt8.xor_eq_zero_iff, ← show L.length - 2 + 1 = L.length - 1 by omega]
  exact ⟨fun h => h.symm, fun h => h.symm⟩
theorem zP_iff {L : List Txt} {m : Nat} (h : AllLen L m) (h3 : 3 ≤ L.length) : zB (synP L) = true ↔ ∀ j, j < m → PRel (col L j) (L.length - 2) := by
  rw [zB_iff, synP_all h h3]
  exact ⟨fun hh j hj => (synP_zero L j).1 (hh j hj), fun hh j hj => (synP_zero L j).2 (hh j hj)⟩
theorem zQ_iff {L : List Txt} {m : Nat} (h : AllLen L m) (h3 : 3 ≤ L.length) : zB (synQ L) = true ↔ ∀ j, j < m → QRel (col L j) (L.length - 2) := by
  rw [zB_iff, synQ_all h h3]
  exact ⟨fun hh j hj => (synQ_zero L (by omega) j).1 (hh j hj), fun hh j hj => (synQ_zero L (by omega) j).2 (hh j hj)⟩
/-- a good row of columns of m bytes -/
structure GoodL (L : List Txt) (m : Nat) : Prop where
  n4 : 4 ≤ L.length
  n10 : L.length ≤ 10
  all : AllLen L m
  rel : ∀ j, j < m → PRel (col L j) (L.length - 2) ∧ QRel (col L j) (L.length - 2)
theorem judV_zero {L : List Txt} : (judV L).1 = 0 ↔ zB (synP L) = true ∧ zB (synQ L) = true := by
  unfold judV judPQ
  cases zB (synP L) with
  | true =>
    cases zB (synQ L) with
    | true => simp
    | false => simp
  | false =>
    cases zB (synQ L) with
    | true => simp
    | false =>
      cases firstK (synP L) (synQ L) (L.length - 2) with
      | none => simp
      | some k => simp
theorem judV_good {L : List Txt} {m : Nat} (h : GoodL L m) : judV L = (0, 0) := by
  have h1 := (zP_iff h.all (by have := h.n4; omega)).2 fun j hj => (h.rel j hj).1
  have h2 := (zQ_iff h.all (by have := h.n4; omega)).2 fun j hj => (h.rel j hj).2
  unfold judV judPQ
  rw [h1, h2]; rfl
theorem GoodL.of_zero {L : List Txt} {m : Nat} (n4 : 4 ≤ L.length) (n10 : L.length ≤ 10) (h : AllLen L m) (hz : (judV L).1 = 0) : GoodL L m := by
  obtain ⟨h1, h2⟩ := judV_zero.1 hz
  exact ⟨n4, n10, h, fun j hj => ⟨(zP_iff h (by omega)).1 h1 j hj, (zQ_iff h (by omega)).1 h2 j hj⟩⟩
theorem GoodL.ok {L : List Txt} {m : Nat} (h : GoodL L m) (hm : m ≤ 4096) : OkM L [] := ⟨h.n4, h.n10, by simp, by simp, m, hm, fun j hj _ => h.all j hj⟩
theorem ok_all {L : List Txt} {m : Nat} (n4 : 4 ≤ L.length) (n10 : L.length ≤ 10) (h : AllLen L m) (hm : m ≤ 4096) : OkM L [] := ⟨n4, n10, by simp, by simp, m, hm, fun j hj _ => h j hj⟩
theorem GoodL.rep {L : List Txt} {m : Nat} (h : GoodL L m) (hm : m ≤ 4096) : repF L = (L, -1, 0) := by
  unfold repF
  rw [if_pos (h.ok hm), judV_good h]; rfl
theorem GoodL.filled {L : List Txt} {m : Nat} (h : GoodL L m) (lost : List Int) (j : Nat) : Filled (L.length - 2) lost (col L j) := by
  by_cases hj : j < m
  · exact Filled.good (h.rel j hj).1 (h.rel j hj).2 _
  · have hz : ∀ c, col L j c = 0 := fun c => by
      unfold col
      by_cases hc : c < L.length
      · rw [List.getD_eq_getElem?_getD, List.getElem?_eq_none (by rw [h.all c hc]; omega)]; rfl
      · rw [List.getD_eq_getElem?_getD (l := L), List.getElem?_eq_none (by omega)]; rfl
    refine Filled.good ?_ ?_ _
    · unfold PRel
      rw [hz, sx_zero fun c _ => hz c]
    · unfold QRel
      rw [hz, sx_zero fun c _ => wq_zero (hz c)]
/-- a row of which one column lies is repaired to a good one -/
theorem rep_one {L : List Txt} {m i : Nat} (n4 : 4 ≤ L.length) (n10 : L.length ≤ 10) (h : AllLen L m) (hm : m ≤ 4096) (hj : judV L = (1, (i : Int))) :
    repF L = (fillF L [(i : Int)], (i : Int), 0) ∧ GoodL (fillF L [(i : Int)]) m ∧ (fillF L [(i : Int)]).length = L.length := by
  have hk := ok_all n4 n10 h hm
  have hi : i ≤ L.length - 2 + 1 := by
    rcases judPQ_cases (synP L) (synQ L) (L.length - 2) with h' | ⟨i', hi', h'⟩ | h'
    · have : judV L = (0, 0) := h'
      rw [hj] at this; cases this
    · have : judV L = (1, (i' : Int)) := h'
      rw [hj] at this
      have := (Prod.mk.inj this).2
      omega
    · have : judV L = (2, 0) := h'
      rw [hj] at this; cases this
  have hF := fill_col (hk.lose (i := i) (by omega)) (by simp) (m := m) fun j hj _ => h j hj
  refine ⟨by unfold repF; rw [if_pos hk, hj]; rfl, ?_, hF.len⟩
  have hlen := hF.len
  generalize fillF L [(i : Int)] = G at hF hlen
  refine ⟨by omega, by omega, hF.all, fun j hjm => ?_⟩
  rw [hlen]
  have hfil := (hF.fil j).one i rfl
  have same : ∀ c, c ≠ i → col G j c = col L j c := fun c hc => by
    unfold col
    rw [hF.out c (by simp; omega)]
  unfold judV judPQ at hj
  cases hP : zB (synP L) with
  | true =>
    have hPr := (zP_iff h (by omega)).1 hP j hjm
    cases hQ : zB (synQ L) with
    | true => rw [hP, hQ] at hj; simp at hj
    | false =>
      rw [hP, hQ] at hj
      have hin : i = L.length - 2 + 1 := by simp at hj; omega
      refine ⟨?_, hfil.2 hin⟩
      unfold PRel at hPr ⊢
      rw [same _ (by omega), hPr]
      exact sx_congr fun c hc => (same c (by omega)).symm
  | false =>
    cases hQ : zB (synQ L) with
    | true =>
      rw [hP, hQ] at hj
      have hQr := (zQ_iff h (by omega)).1 hQ j hjm
      have hin : i = L.length - 2 := by simp at hj; omega
      refine ⟨hfil.1 (by omega), ?_⟩
      unfold QRel at hQr ⊢
      rw [same _ (by omega), hQr]
      exact sx_congr fun c hc => congrArg (xp c) (same c (by omega)).symm
    | false =>
      rw [hP, hQ] at hj
      cases hf : firstK (synP L) (synQ L) (L.length - 2) with
      | none => rw [hf] at hj; simp at hj
      | some k =>
        rw [hf] at hj
        obtain rfl : k = i := by simp at hj; omega
        obtain ⟨hkn, hkm, _⟩ := firstK_some hf
        have hPr := hfil.1 (by omega)
        refine ⟨hPr, ?_⟩
        have hd : ∀ n, k < n → sx (col G j) n = sx (col L j) n ^^^ (col G j k ^^^ col L j k) ∧ sx (wq (col G j)) n = sx (wq (col L j)) n ^^^ xp k (col G j k ^^^ col L j k) := fun n hn => by
          constructor
          · have := sx_xor (col G j) (col L j) n
            rw [sx_one (f := fun c => col G j c ^^^ col L j c) hn fun c _ hc => by rw [same c hc, UInt8.xor_self]] at this
            rw [this, UInt8.xor_comm, UInt8.xor_assoc, UInt8.xor_self, UInt8.xor_zero]
          · have := sx_xor (wq (col G j)) (wq (col L j)) n
            rw [sx_one (f := fun c => wq (col G j) c ^^^ wq (col L j) c) hn fun c _ hc => by unfold wq; rw [same c hc, UInt8.xor_self]] at this
            unfold wq at this ⊢
            rw [xp_xor, this, UInt8.xor_comm, UInt8.xor_assoc, UInt8.xor_self, UInt8.xor_zero]
        obtain ⟨d1, d2⟩ := hd (L.length - 2) hkn
        have e1 : (synP L).getD j 0 = col G j k ^^^ col L j k := by
          rw [synP_col]
          unfold PRel at hPr
          rw [same _ (by omega), d1] at hPr
          rw [hPr, ← UInt8.xor_assoc, UInt8.xor_self, UInt8.zero_xor]
        have e2 : xp k ((synP L).getD j 0) = (synQ L).getD j 0 := by rw [← mulX_get, hkm]
        unfold QRel
        rw [same _ (by omega), d2, ← e1, e2, synQ_col, ← UInt8.xor_assoc, UInt8.xor_self, UInt8.zero_xor, show L.length - 2 + 1 = L.length - 1 by omega]
/-- one column of a good row lies: it is found -/
theorem lie_found {G : List Txt} {m i : Nat} (h : GoodL G m) (hm : m ≤ 4096) (hi : i < G.length) {x : Txt} (hx : x.length = m) (hne : x ≠ G.getD i []) :
    judV (G.set i x) = (1, (i : Int)) ∧ fillF (G.set i x) [(i : Int)] = G := by
  have n4 := h.n4
  have n10 := h.n10
  have hl : (G.set i x).length = G.length := List.length_set
  have hB : AllLen (G.set i x) m := h.all.set hx i
  have hk := (ok_all (by omega) (by omega) hB hm).lose (i := i) (by omega)
  refine ⟨?_, fill_back hk (by simp) hl h.all (fun c _ hc => get_out (by simp at hc; omega) x) fun j => h.filled _ j⟩
  obtain ⟨t, ht, hd⟩ : ∃ t, t < m ∧ x.getD t 0 ^^^ col G t i ≠ 0 := Classical.byContradiction fun hno => hne (ext_getD (by rw [hx, h.all i hi]) fun j hj => Classical.byContradiction fun e => hno ⟨j, by omega, fun e0 => e (UInt8.xor_eq_zero_iff.1 e0)⟩)
  have hP : ∀ j, j < m → (synP (G.set i x)).getD j 0 = if i ≤ G.length - 2 then x.getD j 0 ^^^ col G j i else 0 := fun j hj => by
    have hr := (h.rel j hj).1
    unfold PRel at hr
    rw [synP_col, hl]
    rcases Nat.lt_trichotomy i (G.length - 2) with hlt | he | hgt
    · rw [if_pos (by omega), sx_set hlt (by omega), col_out (by omega) (by omega), hr, UInt8.xor_comm, ← UInt8.xor_assoc, UInt8.xor_self, UInt8.zero_xor]
    · rw [if_pos (by omega), ← he, col_at hi, sx_congr (g := col G j) fun c hc => col_out hi (by omega) x j, he, ← hr, UInt8.xor_comm]
    · rw [if_neg (by omega), col_out (by omega) (by omega), sx_congr (g := col G j) fun c hc => col_out hi (by omega) x j, ← hr, UInt8.xor_self]
  have hQ : ∀ j, j < m → (synQ (G.set i x)).getD j 0 = if i < G.length - 2 then xp i (x.getD j 0 ^^^ col G j i) else if i = G.length - 2 then 0 else x.getD j 0 ^^^ col G j i := fun j hj => by
    have hr := (h.rel j hj).2
    unfold QRel at hr
    rw [show G.length - 2 + 1 = G.length - 1 by omega] at hr
    rw [synQ_col, hl]
    have wsame : i ≥ G.length - 2 → sx (wq (col (G.set i x) j)) (G.length - 2) = sx (wq (col G j)) (G.length - 2) := fun hge => sx_congr fun c hc => congrArg (xp c) (col_out hi (by omega) x j)
    rcases Nat.lt_trichotomy i (G.length - 2) with hlt | he | hgt
    · rw [if_pos hlt, sq_set hlt (by omega), col_out (by omega) (by omega), hr, UInt8.xor_comm, ← UInt8.xor_assoc, UInt8.xor_self, UInt8.zero_xor]
    · rw [if_neg (by omega), if_pos he, wsame (by omega), col_out (by omega) (by omega), hr, UInt8.xor_self]
    · have hie : i = G.length - 1 := by omega
      rw [if_neg (by omega), if_neg (by omega), wsame (by omega), ← hr, ← hie, col_at hi, UInt8.xor_comm]
  have lP := synP_all hB (by omega)
  have lQ := synQ_all hB (by omega)
  unfold judV judPQ
  rw [hl]
  rcases Nat.lt_trichotomy i (G.length - 2) with hlt | he | hgt
  · have zP : zB (synP (G.set i x)) = false := Bool.eq_false_iff.2 fun hz => hd (by have := (zB_iff _).1 hz t (by omega); rw [hP t ht, if_pos (by omega)] at this; exact this)
    have zQ : zB (synQ (G.set i x)) = false := Bool.eq_false_iff.2 fun hz => hd (by have := (zB_iff _).1 hz t (by omega); rw [hQ t ht, if_pos hlt] at this; exact xp_eq_zero this)
    have hf : firstK (synP (G.set i x)) (synQ (G.set i x)) (G.length - 2) = some i := by
      refine firstK_is hlt (ext_getD (by rw [mulX_len, lP, lQ]) fun j hj => ?_) fun k hk he => ?_
      · rw [mulX_len, lP] at hj
        rw [mulX_get, hP j hj, hQ j hj, if_pos (by omega), if_pos hlt]
      · have := congrArg (fun l : Txt => l.getD t 0) he
        simp only [mulX_get, hP t ht, hQ t ht] at this
        rw [if_pos (by omega), if_pos hlt] at this
        exact hd (xp_two (by omega) (by omega) (by omega) this)
    rw [zP, zQ, hf]; rfl
  · have zP : zB (synP (G.set i x)) = false := Bool.eq_false_iff.2 fun hz => hd (by have := (zB_iff _).1 hz t (by omega); rw [hP t ht, if_pos (by omega)] at this; exact this)
    have zQ : zB (synQ (G.set i x)) = true := (zB_iff _).2 fun j hj => by rw [hQ j (by omega), if_neg (by omega), if_pos he]
    rw [zP, zQ, he]; rfl
  · have zP : zB (synP (G.set i x)) = true := (zB_iff _).2 fun j hj => by rw [hP j (by omega), if_neg (by omega)]
    have zQ : zB (synQ (G.set i x)) = false := Bool.eq_false_iff.2 fun hz => hd (by have := (zB_iff _).1 hz t (by omega); rw [hQ t ht, if_neg (by omega), if_neg (by omega)] at this; exact this)
    rw [zP, zQ, show i = G.length - 2 + 1 by omega]; rfl
theorem lie_rep {G : List Txt} {m i : Nat} (h : GoodL G m) (hm : m ≤ 4096) (hi : i < G.length) {x : Txt} (hx : x.length = m) (hne : x ≠ G.getD i []) : repF (G.set i x) = (G, (i : Int), 0) := by
  obtain ⟨h1, h2⟩ := lie_found h hm hi hx hne
  have := (rep_one (by rw [List.length_set]; exact h.n4) (by rw [List.length_set]; exact h.n10) (h.all.set hx i) hm h1).1
  rw [this, h2]
/-- what is made is good -/
theorem make_good {R : List Txt} {m : Nat} (h : AllLen R m) (h2 : 2 ≤ R.length) (h8 : R.length ≤ 8) : GoodL (makeF R) m := by
  have hp : ∀ j, PRel (col (makeF R) j) R.length ∧ QRel (col (makeF R) j) R.length := fun j => by
    have hc : ∀ c, c < R.length → col (makeF R) j c = col R j c := fun c hc => by unfold col; rw [makeF_get, if_pos hc]
    have hp : col (makeF R) j R.length = (sumT R).getD j 0 := by unfold col; rw [makeF_get, if_neg (by omega), if_pos rfl]
    have hq : col (makeF R) j (R.length + 1) = (qT R).getD j 0 := by unfold col; rw [makeF_get, if_neg (by omega), if_neg (by omega), if_pos rfl]
    constructor
    · unfold PRel
      rw [hp, sx_congr hc]
      exact sAcc_col R j _
    · unfold QRel
      have : sx (wq (col (makeF R) j)) R.length = sx (wq (col R j)) R.length := sx_congr fun c h => congrArg (xp c) (hc c h)
      rw [hq, this]
      exact qAcc_col R j _
  refine ⟨by rw [makeF_len]; omega, by rw [makeF_len]; omega, makeF_all h (by omega), fun j _ => ?_⟩
  rw [makeF_len, show R.length + 2 - 2 = R.length by omega]
  exact hp j
theorem GoodL.goodF {L : List Txt} {m : Nat} (h : GoodL L m) : goodF L = true := by
  have h1 := (zP_iff h.all (by have := h.n4; omega)).2 fun j hj => (h.rel j hj).1
  have h2 := (zQ_iff h.all (by have := h.n4; omega)).2 fun j hj => (h.rel j hj).2
  unfold zB at h1 h2
  unfold Go.Proofs.YtdfkifgkccnaiaaGreatDoor.goodF
  rw [h1, h2]; rfl
theorem goodF_judV (L : List Txt) : decide ((judV L).1 = 0) = goodF L := by
  unfold goodF
  have := judV_zero (L := L)
  unfold zB at this
  cases h1 : (synP L).all (fun x => x == 0) <;> cases h2 : (synQ L).all (fun x => x == 0) <;> simp [h1, h2] at this ⊢ <;> exact this
end Go.Proofs.YtdfkifgkccnaiaaGreatDoor
