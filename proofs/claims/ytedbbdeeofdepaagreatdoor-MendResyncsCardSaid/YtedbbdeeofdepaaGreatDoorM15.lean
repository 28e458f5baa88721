import Derived.Test.YtedbbdeeofdepaaGreatDoorM2
import Derived.Test.YtedbbdeeofdepaaGreatDoorM11
import Derived.Test.YtedbbdeeofdepaaGreatDoorM14
section
/-! mend: what the drives of a set give, in plain words. -/
namespace Go.Proofs.YtedbbdeeofdepaaGreatDoor
open Go.Sh Go.RowKit
set_option linter.unusedVariables false
set_option linter.unusedSimpArgs false
set_option maxRecDepth 20000
set_option maxHeartbeats 1000000
/-- a drive that gives f -/
structure AD.Live (a : AD) (N M : Nat) (f : Nat → ByteArray) : Prop where
  on : a.On N
  few : a.Few M
  sp : ∀ j, a.spoilt j = false
  top : ∀ j, j < N → a.top j = f j
section
variable {a : AD} {N M : Nat} {f : Nat → ByteArray}
theorem AD.Hold.live (h : a.Hold N f) (M : Nat) : a.Live N M f := ⟨h.on, h.few M, h.sp, fun j hj => by rw [AD.top_none (h.pend j), h.safe j hj]⟩
theorem AD.Live.mono (h : a.Live N M f) {M' : Nat} (hm : M ≤ M') : a.Live N M' f := ⟨h.on, h.few.mono hm, h.sp, h.top⟩
theorem AD.Live.read (h : a.Live N M f) {j : Nat} (hj : j < N) : a.read (j : Int) = (f j, 0) := by
  rw [read_on h.on (by omega), Int.toNat_natCast, if_neg (by rw [h.sp]; decide), h.top j hj]
theorem AD.Live.write (h : a.Live N M f) {j : Nat} (hj : j < N) {x : ByteArray} (hx : x.size = 64) : (a.write (j : Int) x).Live N (M + 1) (fun i => if i = j then x else f i) := by
  have hp := h.on.put (i := (j : Int)) (by omega) hx
  refine ⟨h.on.write _ _, h.few.write _ _, fun i => ?_, fun i hi => ?_⟩
  · rw [AD.write_of hp]
    show (if i = (j : Int).toNat then false else a.spoilt i) = false
    rw [h.sp]; split <;> rfl
  · rw [AD.write_top hp, Int.toNat_natCast, h.top i hi]
theorem AD.Live.flush (h : a.Live N M f) : a.flush.Hold N f := by
  have h1 := h.on.flush1
  refine ⟨h.on.flush, fun j => ?_, fun j => ?_, fun j hj => ?_⟩
  · rw [AD.flush_of h1]; rfl
  · rw [AD.flush_of h1]; exact h.sp j
  · rw [(AD.flush_safe h1 (by rw [h.on.len]; exact hj)).1, h.top j hj]
end
/-- a set whose columns give f (kind 0), are nothing (1), or are any drive (2) -/
structure MdS (s : RwS) (ds : List Od) (bu : List Int) (N M : Nat) (K : Nat → Nat) (f : Nat → Nat → ByteArray) : Prop where
  ok : OkG s.c s.k s.r
  len : (ds.length : Int) = s.c
  bl : (bu.length : Int) = s.c
  size : (N : Int) = 4 + s.r * s.k
  co : ∀ i, i < ds.length → (K i = 0 ∧ ∃ p a, ds[i]? = some (some (p, a)) ∧ a.Live N M (f i)) ∨ (K i = 1 ∧ ds[i]? = some none) ∨ (K i = 2 ∧ ∃ p a, ds[i]? = some (some (p, a)) ∧ a.safe.length = N ∧ a.Few M)
def upF (f : Nat → Nat → ByteArray) (c t : Nat) (x : ByteArray) : Nat → Nat → ByteArray := fun i j => if i = c ∧ j = t then x else f i j
theorem rmay_at {s : RwS} {ds : List Od} {bu : List Int} {N : Nat} (h1 : OkG s.c s.k s.r) (h2 : (ds.length : Int) = s.c) (h3 : (bu.length : Int) = s.c) (h4 : (N : Int) = 4 + s.r * s.k) (h5 : ∀ i, i < ds.length → ∀ p a, ds[i]? = some (some (p, a)) → a.safe.length = N) : RMay s ds bu := by
  refine ⟨h1, h2, h3, fun y hy x hx => ?_⟩
  obtain ⟨i, hi, rfl⟩ := List.getElem_of_mem hy
  have := h5 i hi x.1 x.2 (by rw [List.getElem?_eq_getElem hi, hx])
  unfold needG
  rw [if_pos h1, this, h4]
  exact Int.le_refl _
section
variable {s : RwS} {ds : List Od} {bu : List Int} {N M : Nat} {K : Nat → Nat} {f : Nat → Nat → ByteArray}
theorem MdS.all (h : MdS s ds bu N M K f) {i p : Nat} {a : AD} (hk : ds[i]? = some (some (p, a))) : a.safe.length = N ∧ a.Few M := by
  obtain ⟨hi, _⟩ := List.getElem?_eq_some_iff.1 hk
  rcases h.co i hi with ⟨_, p', a', hk', hl⟩ | ⟨_, hk'⟩ | ⟨_, p', a', hk', hl⟩
  · rw [hk] at hk'; cases hk'; exact ⟨hl.on.len, hl.few⟩
  · rw [hk] at hk'; cases hk'
  · rw [hk] at hk'; cases hk'; exact hl
theorem MdS.may (h : MdS s ds bu N M K f) : RMay s ds bu := rmay_at h.ok h.len h.bl h.size fun i hi p a hk => (h.all hk).1
theorem MdS.few (h : MdS s ds bu N M K f) : FewL ds M := fun q a hm => by
  obtain ⟨i, hi, he⟩ := List.getElem_of_mem hm
  exact (h.all (i := i) (p := q) (a := a) (by rw [List.getElem?_eq_getElem hi, he])).2
theorem MdS.mono (h : MdS s ds bu N M K f) {M' : Nat} (hm : M ≤ M') : MdS s ds bu N M' K f := by
  refine ⟨h.ok, h.len, h.bl, h.size, fun i hi => ?_⟩
  rcases h.co i hi with ⟨h1, p, a, h2, h3⟩ | h1 | ⟨h1, p, a, h2, h3, h4⟩
  · exact .inl ⟨h1, p, a, h2, h3.mono hm⟩
  · exact .inr (.inl h1)
  · exact .inr (.inr ⟨h1, p, a, h2, h3, h4.mono hm⟩)
theorem MdS.live (h : MdS s ds bu N M K f) {i : Nat} (hi : i < ds.length) (h0 : K i = 0) : ∃ p a, ds[i]? = some (some (p, a)) ∧ a.Live N M (f i) := by
  rcases h.co i hi with ⟨_, h1⟩ | ⟨h1, _⟩ | ⟨h1, _⟩
  · exact h1
  · omega
  · omega
theorem MdS.there (h : MdS s ds bu N M K f) {i : Nat} (hi : i < ds.length) (h0 : K i = 0) : ∃ p a, ds[i]? = some (some (p, a)) ∧ a.Live N M (f i) ∧ thereO ds i = some (p, a) := by
  obtain ⟨p, a, hk, hl⟩ := h.live hi h0
  refine ⟨p, a, hk, hl, ?_⟩
  unfold thereO
  rw [List.getD_eq_getElem?_getD, hk]
  show (if a.dead = true then none else some (p, a)) = _
  rw [if_neg (by rw [hl.on.dead]; decide)]
theorem MdS.not (h : MdS s ds bu N M K f) {i : Nat} (hi : i < ds.length) (h1 : K i = 1) : ds[i]? = some none ∧ thereO ds i = none := by
  have hk : ds[i]? = some none := by
    rcases h.co i hi with ⟨h2, _⟩ | ⟨_, h2⟩ | ⟨h2, _⟩
    · omega
    · exact h2
    · omega
  refine ⟨hk, ?_⟩
  unfold thereO
  rw [List.getD_eq_getElem?_getD, hk]; rfl
/-- what is read of a column -/
theorem MdS.sec (h : MdS s ds bu N M K f) {row off role : Int} (hr : 0 ≤ row ∧ row < s.r) (ho : 0 ≤ off ∧ off < s.k) (h0 : 0 ≤ role ∧ role < s.c) {c : Nat} (hc : c = (colR s row role).toNat) :
    (bu.getD c 0 ≤ row → secR s ds bu row off role = (noB, 41)) ∧ (K c = 1 → secR s ds bu row off role = (noB, 41)) ∧ (row < bu.getD c 0 → K c = 0 → secR s ds bu row off role = (f c (sectorG s.c s.k s.r row off).toNat, 0)) := by
  have hcl := (colR_nat h.ok hr h0).2
  rw [← hc] at hcl
  have hlen := h.len
  rw [secR_col, ← hc]
  unfold secC
  refine ⟨fun hb => by rw [if_pos hb], fun h1 => ?_, fun hb h1 => ?_⟩
  · split
    · rfl
    · rw [(h.not (by omega) h1).2]
  · rw [if_neg (by omega)]
    obtain ⟨p, a, hk, hl, ht⟩ := h.there (i := c) (by omega) h1
    rw [ht]
    show a.read _ = _
    have hs := sectorG_in h.ok hr ho
    have hz := h.size
    have e : sectorG s.c s.k s.r row off = ((sectorG s.c s.k s.r row off).toNat : Int) := by omega
    rw [e, hl.read (by omega), Int.toNat_natCast]
/-- a sector of a live column is written -/
theorem MdS.write (h : MdS s ds bu N M K f) {row off role : Int} (hr : 0 ≤ row ∧ row < s.r) (ho : 0 ≤ off ∧ off < s.k) (h0 : 0 ≤ role ∧ role < s.c) {c : Nat} (hc : c = (colR s row role).toNat) (hK : K c = 0) {x : ByteArray} (hx : x.size = 64) :
    writeE s ds bu row off role x = 0 ∧ MdS s (writeD s ds bu row off role x) bu N (M + 1) K (upF f c (sectorG s.c s.k s.r row off).toNat x) := by
  have hcl := (colR_nat h.ok hr h0).2
  rw [← hc] at hcl
  have hlen := h.len
  obtain ⟨p, a, hk, hl, ht⟩ := h.there (i := c) (by omega) hK
  have hs := sectorG_in h.ok hr ho
  have hz := h.size
  have hat : atE s ds bu row off = 0 := by unfold atE; rw [if_pos h.may, if_neg (by omega)]
  have hn : ¬ (role < 0 ∨ role ≥ s.c) := by omega
  have hlv := hl.write (j := (sectorG s.c s.k s.r row off).toNat) (by omega) hx
  have hp := hl.on.put (i := sectorG s.c s.k s.r row off) (by omega) hx
  rw [Int.toNat_of_nonneg (by omega)] at hlv
  refine ⟨?_, ?_⟩
  · unfold writeE
    rw [if_neg (by omega), if_neg hn, ← hc, ht]
    exact hp
  · unfold writeD
    rw [if_neg (by omega), if_neg hn, ← hc, ht]
    refine ⟨h.ok, by rw [List.length_set]; exact h.len, h.bl, h.size, fun i hi => ?_⟩
    rw [List.length_set] at hi
    by_cases e : i = c
    · subst e
      refine .inl ⟨hK, p, _, List.getElem?_set_self hi, ?_⟩
      have e2 : upF f i (sectorG s.c s.k s.r row off).toNat x i = fun j => if j = (sectorG s.c s.k s.r row off).toNat then x else f i j := by
        funext j
        unfold upF
        simp
      rw [e2]; exact hlv
    · rw [List.getElem?_set_ne (Ne.symm e)]
      have e2 : upF f c (sectorG s.c s.k s.r row off).toNat x i = f i := by
        funext j
        unfold upF
        rw [if_neg fun h => e h.1]
      rw [e2]
      rcases h.co i hi with ⟨h1, p', a', h2, h3⟩ | h1 | ⟨h1, p', a', h2, h3, h4⟩
      · exact .inl ⟨h1, p', a', h2, h3.mono (by omega)⟩
      · exact .inr (.inl h1)
      · exact .inr (.inr ⟨h1, p', a', h2, h3, h4.mono (by omega)⟩)
/-- no drive's power is gone -/
theorem MdS.no42 (h : MdS s ds bu N M K f) (hK : ∀ i, i < ds.length → K i ≠ 2) : ds.any offO = false := by
  rw [Bool.eq_false_iff]
  intro ht
  obtain ⟨y, hy, hs⟩ := List.any_eq_true.1 ht
  obtain ⟨i, hi, rfl⟩ := List.getElem_of_mem hy
  rcases h.co i hi with ⟨_, p, a, h2, h3⟩ | ⟨_, h2⟩ | ⟨h1, _⟩
  · rw [List.getElem?_eq_getElem hi, Option.some_inj] at h2
    rw [h2] at hs
    have : (a.flush1 == 42) = true := hs
    rw [h3.on.flush1] at this
    cases this
  · rw [List.getElem?_eq_getElem hi, Option.some_inj] at h2
    rw [h2] at hs
    cases hs
  · exact hK i hi h1
/-- nothing of it is pending -/
def MdH (ds : List Od) (N : Nat) (K : Nat → Nat) (f : Nat → Nat → ByteArray) : Prop := ∀ i, i < ds.length → K i = 0 → ∃ p a, ds[i]? = some (some (p, a)) ∧ a.Hold N (f i)
theorem flushO_get {ds : List Od} {i : Nat} {y : Od} (h : ds[i]? = some y) : (ds.map flushO)[i]? = some (flushO y) := by rw [List.getElem?_map, h]; rfl
theorem flush_len (a : AD) : a.flush.safe.length = a.safe.length := by
  unfold AD.flush
  split
  · rfl
  · show (keptFrom _ _ 0 0 a.safe).length = _
    rw [keptFrom_len]
theorem MdS.flush (h : MdS s ds bu N M K f) : MdS s (ds.map flushO) bu N M K f ∧ MdH (ds.map flushO) N K f := by
  refine ⟨⟨h.ok, by rw [List.length_map]; exact h.len, h.bl, h.size, fun i hi => ?_⟩, fun i hi h0 => ?_⟩
  · rw [List.length_map] at hi
    rcases h.co i hi with ⟨h1, p, a, h2, h3⟩ | ⟨h1, h2⟩ | ⟨h1, p, a, h2, h3, h4⟩
    · exact .inl ⟨h1, p, _, flushO_get h2, h3.flush.live M⟩
    · exact .inr (.inl ⟨h1, flushO_get h2⟩)
    · exact .inr (.inr ⟨h1, p, _, flushO_get h2, (flush_len a).trans h3, h4.flush⟩)
  · rw [List.length_map] at hi
    obtain ⟨p, a, h2, h3⟩ := h.live hi h0
    exact ⟨p, _, flushO_get h2, h3.flush⟩
/-- a column is put in another kind -/
theorem MdS.put (h : MdS s ds bu N M K f) {i : Nat} (hi : i < ds.length) {y : Od} {k : Nat} {g : Nat → ByteArray} (hy : (k = 0 ∧ ∃ p a, y = some (p, a) ∧ a.Live N M g) ∨ (k = 1 ∧ y = none) ∨ (k = 2 ∧ ∃ p a, y = some (p, a) ∧ a.safe.length = N ∧ a.Few M)) :
    MdS s (ds.set i y) bu N M (fun j => if j = i then k else K j) (fun j => if j = i then g else f j) := by
  refine ⟨h.ok, by rw [List.length_set]; exact h.len, h.bl, h.size, fun j hj => ?_⟩
  rw [List.length_set] at hj
  by_cases e : j = i
  · subst e
    rw [List.getElem?_set_self hj]
    simp only [if_true]
    rcases hy with ⟨h1, p, a, rfl, h2⟩ | ⟨h1, rfl⟩ | ⟨h1, p, a, rfl, h2⟩
    · exact .inl ⟨h1, p, a, rfl, h2⟩
    · exact .inr (.inl ⟨h1, rfl⟩)
    · exact .inr (.inr ⟨h1, p, a, rfl, h2⟩)
  · rw [List.getElem?_set_ne (Ne.symm e)]
    simp only [if_neg e]
    exact h.co j hj
theorem MdS.numbers (h : MdS s ds bu N M K f) {bu' : List Int} (hb : bu'.length = bu.length) : MdS s ds bu' N M K f := ⟨h.ok, h.len, by rw [hb]; exact h.bl, h.size, h.co⟩
theorem MdS.congr (h : MdS s ds bu N M K f) {K' : Nat → Nat} {f' : Nat → Nat → ByteArray} (hK : ∀ i, i < ds.length → K' i = K i) (hf : ∀ i, i < ds.length → K i = 0 → ∀ j, j < N → f' i j = f i j) : MdS s ds bu N M K' f' := by
  refine ⟨h.ok, h.len, h.bl, h.size, fun i hi => ?_⟩
  rw [hK i hi]
  rcases h.co i hi with ⟨h1, p, a, h2, h3⟩ | h1 | h1
  · exact .inl ⟨h1, p, a, h2, h3.on, h3.few, h3.sp, fun j hj => by rw [h3.top j hj, hf i hi h1 j hj]⟩
  · exact .inr (.inl h1)
  · exact .inr (.inr h1)
end
/-- the texts of a row -/
def rwT (s : RwS) (f : Nat → Nat → ByteArray) (row off : Int) (c : Nat) : List Txt := (List.range c).map fun i : Nat => (f (colR s row i).toNat (sectorG s.c s.k s.r row off).toNat).data.toList
theorem rwT_len (s : RwS) (f : Nat → Nat → ByteArray) (row off : Int) (c : Nat) : (rwT s f row off c).length = c := by simp [rwT]
theorem rwT_get (s : RwS) (f : Nat → Nat → ByteArray) (row off : Int) {c i : Nat} (hi : i < c) : (rwT s f row off c).getD i [] = (f (colR s row i).toNat (sectorG s.c s.k s.r row off).toNat).data.toList := by
  unfold rwT
  rw [List.getD_eq_getElem?_getD, List.getElem?_map, List.getElem?_range hi]; rfl
theorem rwT_str (s : RwS) (f : Nat → Nat → ByteArray) (row off : Int) {c i : Nat} (hi : i < c) : strB ((rwT s f row off c).getD i []) = f (colR s row i).toNat (sectorG s.c s.k s.r row off).toNat := by
  exact (congrArg strB (rwT_get s f row off hi)).trans (strB_list _)
theorem rwT_up {s : RwS} {f : Nat → Nat → ByteArray} (hG : OkG s.c s.k s.r) {row off off' : Int} (hr : 0 ≤ row ∧ row < s.r) (ho : 0 ≤ off ∧ off < s.k) (ho' : 0 ≤ off' ∧ off' < s.k) {c r : Nat} (hc : s.c = (c : Int)) (h0 : r < c) (x : ByteArray) :
    rwT s (upF f (colR s row r).toNat (sectorG s.c s.k s.r row off).toNat x) row off' c = if off' = off then (rwT s f row off c).set r x.data.toList else rwT s f row off' c := by
  have hs := sectorG_in hG hr ho
  have hs' := sectorG_in hG hr ho'
  split
  · rename_i e
    subst e
    refine List.ext_getElem (by simp [rwT]) fun i h1 h2 => ?_
    have hi : i < c := by rw [rwT_len] at h1; exact h1
    rw [List.getElem_set]
    simp only [rwT, List.getElem_map, List.getElem_range]
    by_cases e : r = i
    · subst e
      rw [if_pos rfl]
      unfold upF
      rw [if_pos ⟨rfl, rfl⟩]
    · rw [if_neg e]
      unfold upF
      have hne : ¬ ((colR s row i).toNat = (colR s row r).toNat ∧ (sectorG s.c s.k s.r row off').toNat = (sectorG s.c s.k s.r row off').toNat) := fun h => e (by
        have h1 := colR_nat hG hr (role := (r : Int)) (by omega)
        have h2 := colR_nat hG hr (role := (i : Int)) (by omega)
        have := colR_inj hG hr (a := (i : Int)) (b := (r : Int)) (by omega) (by omega) (by have := h.1; omega)
        omega)
      rw [if_neg hne]
  · rename_i e
    unfold rwT
    refine List.map_congr_left fun i hi => ?_
    unfold upF
    rw [if_neg fun h => e (sectorG_inj hG hr ho' hr ho (by have := h.2; omega)).2]
/-- is a role lost? -/
def lostK (s : RwS) (bu : List Int) (K : Nat → Nat) (row : Int) (i : Nat) : Bool := decide (bu.getD (colR s row i).toNat 0 ≤ row) || decide (K (colR s row i).toNat = 1)
section
variable {s : RwS} {ds : List Od} {bu : List Int} {N M : Nat} {K : Nat → Nat} {f : Nat → Nat → ByteArray}
theorem MdS.secs (h : MdS s ds bu N M K f) {row off : Int} (hr : 0 ≤ row ∧ row < s.r) (ho : 0 ≤ off ∧ off < s.k) {c : Nat} (hc : s.c = (c : Int)) (h2 : ∀ i, i < c → K i = 2 → bu.getD i 0 ≤ row) :
    ∀ i : Nat, i < c → secR s ds bu row off i = if lostK s bu K row i then (noB, 41) else (strB ((rwT s f row off c).getD i []), 0) := fun i hi => by
  obtain ⟨q1, q2, q3⟩ := h.sec hr ho (role := (i : Int)) (by omega) rfl
  have hcl := (colR_nat h.ok hr (role := (i : Int)) (by omega)).2
  rw [rwT_str s f row off hi]
  unfold lostK
  by_cases h1 : bu.getD (colR s row i).toNat 0 ≤ row
  · rw [q1 h1, decide_eq_true h1]; rfl
  · by_cases h3 : K (colR s row i).toNat = 1
    · rw [q2 h3, decide_eq_true h3, Bool.or_true]; rfl
    · have hlen := h.len
      have h0 : K (colR s row i).toNat = 0 := by
        rcases h.co (colR s row i).toNat (by omega) with ⟨e, _⟩ | ⟨e, _⟩ | ⟨e, _⟩
        · exact e
        · exact absurd e h3
        · exact absurd (h2 _ (by omega) e) h1
      rw [q3 (by omega) h0, decide_eq_false h1, decide_eq_false h3]; rfl
/-- what is read -/
theorem MdS.read (h : MdS s ds bu N M K f) {row off : Int} (hr : 0 ≤ row ∧ row < s.r) (ho : 0 ≤ off ∧ off < s.k) {c : Nat} (hc : s.c = (c : Int)) (h2 : ∀ i, i < c → K i = 2 → bu.getD i 0 ≤ row) :
    readR s ds bu row off = .ok ((List.range c).map fun i : Nat => if lostK s bu K row i then [] else (rwT s f row off c).getD i [], misL (lostK s bu K row) c) :=
  (readR_of h.may hr ho hc _ (h.secs hr ho hc h2)).2
theorem misL_nil {p : Nat → Bool} {n : Nat} (h : ∀ i, i < n → p i = false) : misL p n = [] := by
  unfold misL
  rw [List.map_eq_nil_iff, List.filter_eq_nil_iff]
  intro i hi
  rw [h i (List.mem_range.1 hi)]; simp
theorem MdS.readAll (h : MdS s ds bu N M K f) {row off : Int} (hr : 0 ≤ row ∧ row < s.r) (ho : 0 ≤ off ∧ off < s.k) {c : Nat} (hc : s.c = (c : Int)) (hK : ∀ i, i < c → K i = 0) (hb : ∀ i, i < c → row < bu.getD i 0) :
    readR s ds bu row off = .ok (rwT s f row off c, []) := by
  rw [h.read hr ho hc fun i hi e => by rw [hK i hi] at e; cases e]
  have hl : ∀ i, i < c → lostK s bu K row i = false := fun i hi => by
    have hcl := (colR_nat h.ok hr (role := (i : Int)) (by omega)).2
    unfold lostK
    rw [decide_eq_false (by have := hb (colR s row i).toNat (by omega); omega), decide_eq_false (by rw [hK _ (by omega)]; decide)]; rfl
  rw [misL_nil hl]
  congr 2
  have := getD_range (rwT s f row off c)
  rw [rwT_len] at this
  rw [← this]
  refine List.map_congr_left fun i hi => ?_
  rw [hl i (List.mem_range.1 hi), this]; rfl
end
/-- a drive that has power for so many more -/
structure AD.Pw (a : AD) (P N M : Nat) : Prop where
  dead : a.dead = false
  power : a.power = some P
  len : a.safe.length = N
  few : a.Few M
section
variable {a : AD} {P N M : Nat}
theorem AD.Pw.put (h : a.Pw P N M) {i : Int} (hi : 0 ≤ i ∧ i < (N : Int)) {x : ByteArray} (hx : x.size = 64) : a.put i x = if P = 0 then 42 else 0 := by
  have hm : a.may i = if P = 0 then 42 else 0 := by
    unfold AD.may AD.off
    rw [h.dead, h.power, h.len, if_neg (by decide)]
    by_cases e : P = 0
    · subst e; rfl
    · rw [if_neg e, if_neg (by simpa using e), if_neg (by omega)]
  unfold AD.put
  rw [hm]
  by_cases e : P = 0
  · rw [if_pos e, if_pos (by decide)]
  · rw [if_neg e, if_neg (by decide), if_neg (by simp [hx])]
theorem AD.Pw.write (h : a.Pw (P + 1) N M) {i : Int} (hi : 0 ≤ i ∧ i < (N : Int)) {x : ByteArray} (hx : x.size = 64) : (a.write i x).Pw P N (M + 1) := by
  have hp : a.put i x = 0 := by rw [h.put hi hx, if_neg (by omega)]
  refine ⟨?_, ?_, ?_, h.few.write _ _⟩ <;> rw [AD.write_of hp]
  · exact h.dead
  · show a.power.map (· - 1) = some P
    rw [h.power]; rfl
  · exact h.len
theorem AD.Pw.flush1 (h : a.Pw P N M) : a.flush1 = if P = 0 then 42 else 0 := by
  unfold AD.flush1 AD.off
  rw [h.dead, h.power, if_neg (by decide)]
  by_cases e : P = 0
  · subst e; rfl
  · rw [if_neg e, if_neg (by simpa using e)]
end
/-- rows of bytes 0 are good -/
theorem zero_good {c m : Nat} (h4 : 4 ≤ c) (h10 : c ≤ 10) : GoodL (List.replicate c (List.replicate m 0)) m := by
  have hl : (List.replicate c (List.replicate m (0 : UInt8))).length = c := List.length_replicate
  have hg : ∀ j i, col (List.replicate c (List.replicate m (0 : UInt8))) j i = 0 := fun j i => by
    unfold col
    rw [List.getD_eq_getElem?_getD (l := List.replicate c _), List.getElem?_replicate]
    split
    · show (List.replicate m (0 : UInt8)).getD j 0 = 0
      rw [List.getD_eq_getElem?_getD, List.getElem?_replicate]
      split <;> rfl
    · rfl
  refine ⟨by omega, by omega, fun j hj => ?_, fun j hj => ⟨?_, ?_⟩⟩
  · rw [hl] at hj
    rw [List.getD_eq_getElem?_getD, List.getElem?_replicate, if_pos hj]
    show (List.replicate m (0 : UInt8)).length = m
    exact List.length_replicate
  · unfold PRel
    rw [hg, sx_zero fun c _ => hg j c]
  · unfold QRel
    rw [hg, sx_zero fun c _ => wq_zero (hg j c)]
end Go.Proofs.YtedbbdeeofdepaaGreatDoor
end
section
/-! A range over a function that is left at its N-th round. -/
namespace Go.Sh
open Go.RowKit
set_option linter.unusedVariables false
theorem RoundXO.t {obf : LoopState → Option Code → Obj} {l i : Nat} {Φ : Value → World → Prop} {body : (World → Prop) → (Nat → World → Prop) → (World → Prop) → World → Prop} {h h' : Kd} {F : List Nat} {w0 W : World} {X X' : List A}
    (H : Ow h F w0 W (ob l (obf .ready none) :: X)) (hΦ : ∀ w', Ow h' F w0 w' (ob l (obf .done (some (.exit i))) :: X') → Φ (.bool false) w')
    (hb : ∀ K B R w1, Ow h F w0 w1 (ob l (obf .busy none) :: X) → (∀ w2, Ow h' F w0 w2 (ob l (obf .busy none) :: X') → B i w2) → body K B R w1) : RoundP obf l Φ body W :=
  ⟨H.got List.mem_cons_self, hb _ _ _ _ H.putTop fun w2 h2 => ⟨h2.got List.mem_cons_self, hΦ _ h2.putTop⟩⟩
theorem RangeXO.t {P : Program} {round : (LoopState → Option Code → Obj) → Nat → List Value → World → (Value → World → Prop) → Prop} {i : Nat} {B K R : Nat → World → Prop} {f : FuncId} {first cap : Array Value} (hb : bodyB P f = true)
    {F : List Nat} {w0 w : World} {h : Nat → Kd} {X : Nat → List A} {h' : Kd} {X' : List A} {N : Nat} {arg : Nat → List Value} (H : Ow (h 0) F w0 w (X 0))
    (hcallee : ∀ (yv : Value) (x y z : A), (∀ k W, k < N → Ow (h k) F w0 W (x :: y :: X k) → CallF P yv (arg k) W fun e w' => e = .returned (.bool true) ∧ Ow (h (k + 1)) F w0 w' (x :: y :: X (k + 1))) →
      (∀ W, Ow (h N) F w0 W (x :: y :: X N) → CallF P yv (arg N) W fun e w' => e = .returned (.bool false) ∧ Ow h' F w0 w' (z :: y :: X')) →
      ∀ W, Ow (h 0) F w0 W (x :: y :: X 0) → Calls P f (first.toList ++ [yv] ++ cap.toList).toArray W fun e w' => (∃ v, e = .returned v) ∧ Ow h' F w0 w' (z :: y :: X'))
    (hround : ∀ (obf : LoopState → Option Code → Obj) (l d k : Nat) (W : World) (Φ : Value → World → Prop), k < N → Ow (h k) F w0 W (ob l (obf .ready none) :: ob d (.deferred (some [])) :: X k) →
      (∀ w', Ow (h (k + 1)) F w0 w' (ob l (obf .ready none) :: ob d (.deferred (some [])) :: X (k + 1)) → Φ (.bool true) w') → round obf l (arg k) W Φ)
    (hlast : ∀ (obf : LoopState → Option Code → Obj) (l d : Nat) (W : World) (Φ : Value → World → Prop), Ow (h N) F w0 W (ob l (obf .ready none) :: ob d (.deferred (some [])) :: X N) →
      (∀ w', Ow h' F w0 w' (ob l (obf .done (some (.exit i))) :: ob d (.deferred (some [])) :: X') → Φ (.bool false) w') → round obf l (arg N) W Φ)
    (hK : ∀ d w', Ow h' F w0 w' (ob d (.deferred (some [])) :: X') → B d w') : RangeP P (.func (.func f) first cap) round [(i, B)] K R w := by
  intro obf hob hyield
  refine ⟨f, first, cap, rfl, hb, ?_⟩
  have hsz : (w.alloc (.deferred (some []))).heap.size = w.heap.size + 1 := by simp
  have h2 : Ow (h 0) F w0 ((w.alloc (.deferred (some []))).alloc (obf .ready none)) (ob (w.heap.size + 1) (obf .ready none) :: ob w.heap.size (.deferred (some [])) :: X 0) := by
    obtain ⟨Y, hY, hT⟩ := H
    have h2 := (hT.alloc (.deferred (some []))).alloc (obf .ready none)
    rw [hsz] at h2
    exact ⟨Y, hY, h2⟩
  refine (hcallee (.func (.yield (w.heap.size + 1)) #[] #[]) (ob (w.heap.size + 1) (obf .ready none)) (ob w.heap.size (.deferred (some []))) (ob (w.heap.size + 1) (obf .done (some (.exit i)))) ?_ ?_ _ h2).mono ?_
  · intro k W hk h
    show CallV P (.func (.yield (w.heap.size + 1)) #[] #[]) (arg k) W _
    exact hyield _ _ _ (h.got List.mem_cons_self) (hround obf _ w.heap.size k W _ hk h fun w' h' => ⟨rfl, h'⟩)
  · intro W h
    show CallV P (.func (.yield (w.heap.size + 1)) #[] #[]) (arg N) W _
    exact hyield _ _ _ (h.got List.mem_cons_self) (hlast obf _ w.heap.size W _ h fun w' h' => ⟨rfl, h'⟩)
  · rintro e w3 ⟨hv, h⟩
    exact ⟨hv, .done, some (.exit i), h.got List.mem_cons_self, by simp, .inr (.inr (.inl ⟨rfl, hK _ _ h.putTop.dropX⟩))⟩
end Go.Sh
end
section
/-! mend: places, each, whole, put, done. -/
namespace Go.Proofs.YtedbbdeeofdepaaGreatDoor
open Go.Sh Go.RowKit
set_option linter.unusedVariables false
set_option linter.unusedSimpArgs false
set_option maxRecDepth 20000
set_option maxHeartbeats 1000000
theorem places1_spec {kk : Int} (hk : 0 ≤ kk ∧ kk ≤ 1000) {k1 : Nat} {yv : Value} {J : Nat → World → Prop} {Q : World → Prop} {N : Nat} (hN : (N : Int) ≤ kk) (hJ : ∀ W, J 0 W → W.cell? ⟨k1, 1, none⟩ = some (.int .i64 kk))
    (hgo : ∀ m W, m < N → J m W → CallF Tryz.prog yv [.int .i64 (m : Int)] W fun e w' => e = .returned (.bool true) ∧ J (m + 1) w')
    (hend : (N : Int) < kk → ∀ W, J N W → CallF Tryz.prog yv [.int .i64 (N : Int)] W fun e w' => e = .returned (.bool false) ∧ Q w')
    (hall : (N : Int) = kk → ∀ W, J N W → Q W) (W : World) (h0 : J 0 W) :
    Calls Tryz.prog 110 #[yv, .pointer (some ⟨k1, 0, none⟩)] W fun e w' => (∃ v, e = .returned v) ∧ Q w' := by
  refine (mend_places_1_calls (R := fun v w' => Q w') ?_).mono fun e w' ⟨v, he, h⟩ => ⟨⟨v, he⟩, h⟩
  unfold mend_places_1
  refine ⟨kk, by rw [addr_add]; exact hJ W h0, ?_⟩
  refine ⟨fun vs w' => ∃ i : Nat, vs = [.int .i64 (i : Int)] ∧ i ≤ N ∧ J i w', fun vs _ => match vs with | [.int _ i] => (kk - i).toNat | _ => 0, ⟨0, rfl, by omega, h0⟩, ?_⟩
  rintro vs w1 ⟨i, rfl, hi, hJi⟩
  refine ⟨_, rfl, dec_t fun hlt => ?_, dec_f fun hge => ?_⟩
  · by_cases hiN : i < N
    · refine CallF.mono (hgo i w1 hiN hJi) fun e w3 ⟨he, hJ3⟩ => ⟨true, he, no rfl ⟨⟨i + 1, ?_, by omega, hJ3⟩, ?_⟩⟩
      · rw [wrap64 _ (by omega) (by omega)]; rfl
      · show (kk - IntKind.i64.wrap ((i : Int) + 1)).toNat < (kk - (i : Int)).toNat
        rw [wrap64 _ (by omega) (by omega)]; omega
    · obtain rfl : i = N := by omega
      exact CallF.mono (hend hlt w1 hJi) fun e w3 ⟨he, hq⟩ => ⟨false, he, yes rfl hq⟩
  · obtain rfl : i = N := by omega
    exact hall (by omega) w1 hJi
theorem places_spec {h : Kd} {s : RwS} {n m : Nat} {w0 w : World} {X : List A} (H : Ow h [] w0 w X) {Φ : Ending → World → Prop} (hK : ∀ k w', Ow h [] w0 w' (blk k (rwC s n m) 30 :: X) → Φ (.returned (.func (.func 110) #[] #[.pointer (some ⟨k, 0, none⟩)])) w') :
    Calls Tryz.prog 83 #[.agg (rwC s n m)] w Φ := by
  refine (mend_places_calls (R := fun v w' => Φ (.returned v) w') ?_).mono fun e w' ⟨v, he, h⟩ => by rw [he]; exact h
  unfold mend_places
  exact H.alloc fun k w1 h1 => hK k w1 h1
/-- a walk over the places of a row: N of them go well; the next one, if there is any, ends it -/
theorem each_spec {s : RwS} {bu : List Int} {row : Int} {w0 w : World} {X : Nat → List A} {XZ : List A} {D : Nat → List Od → Prop} {Z : List Od → Prop} {kk n N : Nat} {dov : Value} {eZ : Int} (hdv : Value.cells dov = #[dov]) (hds : scalar dov = true) (hkk : s.k = (kk : Int)) (hN : N ≤ kk)
    (H : Ow (soK s bu (D 0)) [] w0 w (X 0)) (hD : ∀ m ds, m ≤ N → D m ds → ds.length = n ∧ RMay s ds bu ∧ FewL ds 1000000) (hrow : 0 ≤ row ∧ row < s.r)
    (hgo : ∀ m ds, m < N → D m ds → ∃ L l, readR s ds bu row m = .ok (L, l) ∧ ∀ W Γ g c g' c', Ow (seK s ds bu) [] w0 W (rowP 9 1 g L.length c (txts L) :: rowP 3 1 g' l.length c' (intsI l) :: (Γ ++ X m)) →
      CallF Tryz.prog dov [.int .i64 (m : Int), .slice (ptr g) L.length c, .slice (ptr g') l.length c'] W fun e w' => e = .returned (.int .i64 0) ∧ Ow (soK s bu (D (m + 1))) [] w0 w' (Γ ++ X (m + 1)))
    (hend : N < kk → eZ ≠ 0 ∧ ∀ ds, D N ds → ∃ L l, readR s ds bu row N = .ok (L, l) ∧ ∀ W Γ g c g' c', Ow (seK s ds bu) [] w0 W (rowP 9 1 g L.length c (txts L) :: rowP 3 1 g' l.length c' (intsI l) :: (Γ ++ X N)) →
      CallF Tryz.prog dov [.int .i64 (N : Int), .slice (ptr g) L.length c, .slice (ptr g') l.length c'] W fun e w' => e = .returned (.int .i64 eZ) ∧ Ow (soK s bu Z) [] w0 w' (Γ ++ XZ))
    (hall : N = kk → eZ = 0 ∧ (∀ ds, D N ds → Z ds) ∧ XZ = X N) :
    Calls Tryz.prog 51 #[.agg (rwC s n bu.length), .int .i64 row, dov] w fun e w' => e = .returned (.int .i64 eZ) ∧ Ow (soK s bu Z) [] w0 w' XZ := by
  refine (mend_each_calls (R := fun v w' => v = .int .i64 eZ ∧ Ow (soK s bu Z) [] w0 w' XZ) ?_).mono fun e w' ⟨v, he, hv, h⟩ => ⟨by rw [he, hv], h⟩
  unfold mend_each
  refine Ow.alloc H fun k3 w1 H1 => Ow.alloc H1 fun k4 w2 H2 => ?_
  rw [hdv]
  refine Ow.alloc H2 fun k5 w3 H3 => ?_
  have H3 : Ow (soK s bu (D 0)) [] w0 w3 (blk k5 #[dov] 101 :: blk k4 #[.int .i64 row] 3 :: blk k3 (rwC s n bu.length) 30 :: X 0) := H3
  have c3 : ∀ {h : Kd} {w' : World} {Y : List A}, Ow h [] w0 w' Y → blk k3 (rwC s n bu.length) 30 ∈ Y → ∀ i v, (rwC s n bu.length)[i]? = some v → w'.cell? ⟨k3, i, none⟩ = some v := fun h' hm i v hv => h'.ld hm hv
  refine ⟨_, _, _, _, _, _, _, _, _, ⟨c3 H3 (by repeat (first | exact List.Mem.head _ | refine List.Mem.tail _ ?_)) 0 _ rfl, c3 H3 (by repeat (first | exact List.Mem.head _ | refine List.Mem.tail _ ?_)) 1 _ rfl, c3 H3 (by repeat (first | exact List.Mem.head _ | refine List.Mem.tail _ ?_)) 2 _ rfl, c3 H3 (by repeat (first | exact List.Mem.head _ | refine List.Mem.tail _ ?_)) 3 _ rfl, c3 H3 (by repeat (first | exact List.Mem.head _ | refine List.Mem.tail _ ?_)) 4 _ rfl⟩, ?_⟩
  obtain ⟨ds0, hD0, H3'⟩ := so_open H3
  obtain ⟨hn0, hM0, hF0⟩ := hD 0 ds0 (Nat.zero_le _) hD0
  have hn1 : n ≤ 10 := by have := hM0.2.1; have := hM0.1.2.1; omega
  have hk1 := hM0.1
  have hMy := may16_spec (se_w H3') (by omega)
  rw [hn0, decide_eq_true hM0] at hMy
  clear H3'
  refine hMy.mono fun e w4 ⟨he4, hx4⟩ => ⟨_, he4, no rfl ?_⟩
  have H4 := H3.quiet hx4
  refine ⟨_, H4.ld (b := k4) (by repeat (first | exact List.Mem.head _ | refine List.Mem.tail _ ?_)) rfl, dec_t fun h => absurd h (by omega), dec_f fun _ => ?_⟩
  refine ⟨_, H4.ld (b := k4) (by repeat (first | exact List.Mem.head _ | refine List.Mem.tail _ ?_)) rfl, _, c3 H4 (by repeat (first | exact List.Mem.head _ | refine List.Mem.tail _ ?_)) 2 _ rfl, dec_t fun h => absurd h (by omega), dec_f fun _ => ?_⟩
  refine Ow.alloc H4 fun k7 w5 H5 => ?_
  refine H5.st .head (by simp) rfl rfl fun w6 H6 => ?_
  have H6 : Ow (soK s bu (D 0)) [] w0 w6 (blk k7 #[.int .i64 0] 38 :: blk k5 #[dov] 101 :: blk k4 #[.int .i64 row] 3 :: blk k3 (rwC s n bu.length) 30 :: X 0) := H6
  refine ⟨_, _, _, _, _, _, _, _, _, ⟨c3 H6 (by repeat (first | exact List.Mem.head _ | refine List.Mem.tail _ ?_)) 0 _ rfl, c3 H6 (by repeat (first | exact List.Mem.head _ | refine List.Mem.tail _ ?_)) 1 _ rfl, c3 H6 (by repeat (first | exact List.Mem.head _ | refine List.Mem.tail _ ?_)) 2 _ rfl, c3 H6 (by repeat (first | exact List.Mem.head _ | refine List.Mem.tail _ ?_)) 3 _ rfl, c3 H6 (by repeat (first | exact List.Mem.head _ | refine List.Mem.tail _ ?_)) 4 _ rfl⟩, ?_⟩
  refine places_spec H6 fun k8 w7 H7 => ⟨_, rfl, ?_⟩
  generalize hEB : (fun (e : Int) (Y : List A) => blk k8 (rwC s n bu.length) 30 :: blk k7 #[.int .i64 e] 38 :: blk k5 #[dov] 101 :: blk k4 #[.int .i64 row] 3 :: blk k3 (rwC s n bu.length) 30 :: Y) = EB
  have H7 : Ow (soK s bu (D 0)) [] w0 w7 (EB 0 (X 0)) := by rw [← hEB]; exact H7
  clear H6 H5 H4 H3 H2 H1 hMy
  have key : ∀ (round : (LoopState → Option Code → Obj) → Nat → List Value → World → (Value → World → Prop) → Prop) (B Kk R' : Nat → World → Prop),
      (∀ (obf : LoopState → Option Code → Obj) (l d m : Nat) (W : World) (Φ : Value → World → Prop), m < N → Ow (soK s bu (D m)) [] w0 W (ob l (obf .ready none) :: ob d (.deferred (some [])) :: EB 0 (X m)) → (∀ w', Ow (soK s bu (D (m + 1))) [] w0 w' (ob l (obf .ready none) :: ob d (.deferred (some [])) :: EB 0 (X (m + 1))) → Φ (.bool true) w') → round obf l [.int .i64 (m : Int)] W Φ) →
      (∀ (obf : LoopState → Option Code → Obj) (l d : Nat) (W : World) (Φ : Value → World → Prop), N < kk → Ow (soK s bu (D N)) [] w0 W (ob l (obf .ready none) :: ob d (.deferred (some [])) :: EB 0 (X N)) → (∀ w', Ow (soK s bu Z) [] w0 w' (ob l (obf .done (some (.exit 1))) :: ob d (.deferred (some [])) :: EB eZ XZ) → Φ (.bool false) w') → round obf l [.int .i64 (N : Int)] W Φ) →
      (∀ d w', Ow (soK s bu Z) [] w0 w' (ob d (.deferred (some [])) :: EB eZ XZ) → B d w') → (∀ d w', Ow (soK s bu Z) [] w0 w' (ob d (.deferred (some [])) :: EB eZ XZ) → Kk d w') →
      RangeP Tryz.prog (.func (.func 110) #[] #[.pointer (some ⟨k8, 0, none⟩)]) round [(1, B)] Kk R' w7 := by
    intro round B Kk R' h1 h2 h3 h4
    have cell : ∀ {h : Kd} {W : World} {x y : A} {e : Int} {Y : List A}, Ow h [] w0 W (x :: y :: EB e Y) → W.cell? ⟨k8, 1, none⟩ = some (.int .i64 (kk : Int)) := fun h' => by
      rw [← hEB] at h'
      rw [← hkk]
      exact h'.ld (b := k8) (c := rwC s n bu.length) (by repeat (first | exact List.Mem.head _ | refine List.Mem.tail _ ?_)) rfl
    have hkB : 0 ≤ (kk : Int) ∧ (kk : Int) ≤ 1000 := by rw [← hkk]; unfold OkG at hk1; omega
    by_cases hNk : N = kk
    · obtain ⟨q1, q2, q3⟩ := hall hNk
      refine RangeO.t (by kernel_rfl) (N := N) (ok := fun m => m < N) (h := fun m => soK s bu (D m)) (X := fun m => EB 0 (X m)) (arg := fun m => [.int .i64 (m : Int)]) H7 ?_ ?_ ?_
      · intro yv x y hyes W hW
        refine places1_spec hkB (N := N) (by omega) (J := fun m W => Ow (soK s bu (D m)) [] w0 W (x :: y :: EB 0 (X m))) (fun W h => cell h) (fun m W hm h => hyes m W hm h) (fun h => by omega) (fun _ W h => h) W hW
      · intro obf l d m W Φ hm hW hΦ
        exact h1 obf l d m W Φ hm hW hΦ
      · intro d w' h'
        refine h4 d w' ?_
        rw [q1, q3]
        obtain ⟨ds, hds, h'⟩ := so_open h'
        exact so_shut (q2 ds hds) h'
    · refine RangeXO.t (by kernel_rfl) (N := N) (h := fun m => soK s bu (D m)) (X := fun m => EB 0 (X m)) (h' := soK s bu Z) (X' := EB eZ XZ) (arg := fun m => [.int .i64 (m : Int)]) H7 ?_ ?_ ?_ ?_
      · intro yv x y z hyes hno W hW
        exact places1_spec hkB (N := N) (by omega) (J := fun m W => Ow (soK s bu (D m)) [] w0 W (x :: y :: EB 0 (X m))) (fun W h => cell h) (fun m W hm h => hyes m W hm h) (fun _ W h => hno W h) (fun h => by omega) W hW
      · intro obf l d m W Φ hm hW hΦ
        exact h1 obf l d m W Φ hm hW hΦ
      · intro obf l d W Φ hW hΦ
        exact h2 obf l d W Φ (by omega) hW hΦ
      · intro d w' h'
        exact h3 d w' h'
  have fin : ∀ d w', Ow (soK s bu Z) [] w0 w' (ob d (.deferred (some [])) :: EB eZ XZ) → ∃ n47 : Int, w'.cell? ⟨k7, 0, none⟩ = some (.int .i64 n47) ∧ w'.heap[d]? = some (.deferred (some [])) ∧ (fun v w' => v = Value.int .i64 eZ ∧ Ow (soK s bu Z) [] w0 w' XZ) (.int .i64 n47) (w'.putObj d (.deferred none)) := by
    intro d w' h'
    rw [← hEB] at h'
    exact ⟨_, h'.ld (b := k7) (by repeat (first | exact List.Mem.head _ | refine List.Mem.tail _ ?_)) rfl, Ow.shut (Q := fun w'' => Value.int .i64 eZ = Value.int .i64 eZ ∧ Ow (soK s bu Z) [] w0 w'' XZ) h' fun w'' h'' => ⟨rfl, h''.dropX.dropX.dropX.dropX.dropX⟩⟩
  refine key _ _ _ _ ?_ ?_ fin fin
  · intro obf l d m W Φ hm hW hΦ
    refine ⟨_, rfl, ?_⟩
    refine RoundO.t hW hΦ ?_
    intro K B R w8 h8 hK
    obtain ⟨ds, hDm, h8⟩ := so_open h8
    obtain ⟨hn, hM, hF⟩ := hD m ds (by omega) hDm
    obtain ⟨L, li, hR, hcall⟩ := hgo m ds hm hDm
    rw [← hEB] at h8
    refine ⟨_, _, _, _, _, _, _, _, _, ⟨c3 h8 (by repeat (first | exact List.Mem.head _ | refine List.Mem.tail _ ?_)) 0 _ rfl, c3 h8 (by repeat (first | exact List.Mem.head _ | refine List.Mem.tail _ ?_)) 1 _ rfl, c3 h8 (by repeat (first | exact List.Mem.head _ | refine List.Mem.tail _ ?_)) 2 _ rfl, c3 h8 (by repeat (first | exact List.Mem.head _ | refine List.Mem.tail _ ?_)) 3 _ rfl, c3 h8 (by repeat (first | exact List.Mem.head _ | refine List.Mem.tail _ ?_)) 4 _ rfl⟩, _, h8.ld (b := k4) (by repeat (first | exact List.Mem.head _ | refine List.Mem.tail _ ?_)) rfl, ?_⟩
    have hRd := read16_spec (se_w h8) (by omega) hF row m
    rw [hn, hR] at hRd
    refine hRd.mono fun e w9 ⟨v, he, g, c, g', c', hv, hT⟩ => ?_
    subst hv
    have h9 := Ow.new h8 hT
    refine ⟨_, _, _, _, _, _, _, he, Join.intro fun J hJ => ?_⟩
    refine h9.st (c' := #[.int .i64 0]) (by repeat (first | exact Turn.head | apply Turn.tail)) (by simp) rfl rfl fun w11 h11 => ?_
    refine ⟨_, h11.ld (b := k7) (by repeat (first | exact List.Mem.head _ | refine List.Mem.tail _ ?_)) rfl, yes rfl ⟨_, h11.ld (b := k5) (by repeat (first | exact List.Mem.head _ | refine List.Mem.tail _ ?_)) rfl, ?_⟩⟩
    refine CallF.mono (hcall w11 [ob l (obf .busy none), ob d (.deferred (some [])), blk k8 (rwC s n bu.length) 30, blk k7 #[.int .i64 0] 38, blk k5 #[dov] 101, blk k4 #[.int .i64 row] 3, blk k3 (rwC s n bu.length) 30] g c g' c' h11) fun e w12 ⟨he12, h12⟩ => ⟨_, he12, ?_⟩
    refine h12.st (c' := #[.int .i64 0]) (.tail (.tail (.tail .head))) (by simp) rfl rfl fun w13 h13 => hJ [] _ ⟨rfl, _, h13.ld (b := k7) (by repeat (first | exact List.Mem.head _ | refine List.Mem.tail _ ?_)) rfl, no rfl (hK _ ?_)⟩
    rw [← hEB]; exact h13
  · intro obf l d W Φ hNk hW hΦ
    obtain ⟨hne, hend⟩ := hend hNk
    refine ⟨_, rfl, ?_⟩
    refine RoundXO.t hW hΦ ?_
    intro K B R w8 h8 hB
    obtain ⟨ds, hDm, h8⟩ := so_open h8
    obtain ⟨hn, hM, hF⟩ := hD N ds (by omega) hDm
    obtain ⟨L, li, hR, hcall⟩ := hend ds hDm
    rw [← hEB] at h8
    refine ⟨_, _, _, _, _, _, _, _, _, ⟨c3 h8 (by repeat (first | exact List.Mem.head _ | refine List.Mem.tail _ ?_)) 0 _ rfl, c3 h8 (by repeat (first | exact List.Mem.head _ | refine List.Mem.tail _ ?_)) 1 _ rfl, c3 h8 (by repeat (first | exact List.Mem.head _ | refine List.Mem.tail _ ?_)) 2 _ rfl, c3 h8 (by repeat (first | exact List.Mem.head _ | refine List.Mem.tail _ ?_)) 3 _ rfl, c3 h8 (by repeat (first | exact List.Mem.head _ | refine List.Mem.tail _ ?_)) 4 _ rfl⟩, _, h8.ld (b := k4) (by repeat (first | exact List.Mem.head _ | refine List.Mem.tail _ ?_)) rfl, ?_⟩
    have hRd := read16_spec (se_w h8) (by omega) hF row N
    rw [hn, hR] at hRd
    refine hRd.mono fun e w9 ⟨v, he, g, c, g', c', hv, hT⟩ => ?_
    subst hv
    have h9 := Ow.new h8 hT
    refine ⟨_, _, _, _, _, _, _, he, Join.intro fun J hJ => ?_⟩
    refine h9.st (c' := #[.int .i64 0]) (by repeat (first | exact Turn.head | apply Turn.tail)) (by simp) rfl rfl fun w11 h11 => ?_
    refine ⟨_, h11.ld (b := k7) (by repeat (first | exact List.Mem.head _ | refine List.Mem.tail _ ?_)) rfl, yes rfl ⟨_, h11.ld (b := k5) (by repeat (first | exact List.Mem.head _ | refine List.Mem.tail _ ?_)) rfl, ?_⟩⟩
    refine CallF.mono (hcall w11 [ob l (obf .busy none), ob d (.deferred (some [])), blk k8 (rwC s n bu.length) 30, blk k7 #[.int .i64 0] 38, blk k5 #[dov] 101, blk k4 #[.int .i64 row] 3, blk k3 (rwC s n bu.length) 30] g c g' c' h11) fun e w12 ⟨he12, h12⟩ => ⟨_, he12, ?_⟩
    refine h12.st (c' := #[.int .i64 eZ]) (.tail (.tail (.tail .head))) (by simp) rfl rfl fun w13 h13 => hJ [] _ ⟨rfl, _, h13.ld (b := k7) (by repeat (first | exact List.Mem.head _ | refine List.Mem.tail _ ?_)) rfl, yes (by simpa using hne) (hB _ ?_)⟩
    rw [← hEB]; exact h13
/-- nothing is lost: each place goes well -/
theorem whole_all {s : RwS} {bu : List Int} {row : Int} {w0 w : World} {X : Nat → List A} {D : Nat → List Od → Prop} {kk n : Nat} {dov : Value} (hdv : Value.cells dov = #[dov]) (hds : scalar dov = true) (hkk : s.k = (kk : Int))
    (H : Ow (soK s bu (D 0)) [] w0 w (X 0)) (hD : ∀ m ds, m ≤ kk → D m ds → ds.length = n ∧ RMay s ds bu ∧ FewL ds 1000000) (hrow : 0 ≤ row ∧ row < s.r)
    (hgo : ∀ m ds, m < kk → D m ds → ∃ L, readR s ds bu row m = .ok (L, []) ∧ ∀ W Γ g c, Ow (seK s ds bu) [] w0 W (rowP 9 1 g L.length c (txts L) :: (Γ ++ X m)) →
      CallF Tryz.prog dov [.int .i64 (m : Int), .slice (ptr g) L.length c] W fun e w' => e = .returned (.int .i64 0) ∧ Ow (soK s bu (D (m + 1))) [] w0 w' (Γ ++ X (m + 1))) :
    Calls Tryz.prog 34 #[.agg (rwC s n bu.length), .int .i64 row, dov] w fun e w' => e = .returned (.int .i64 0) ∧ Ow (soK s bu (D kk)) [] w0 w' (X kk) := by
  refine (mend_whole_calls (R := fun v w' => v = .int .i64 0 ∧ Ow (soK s bu (D kk)) [] w0 w' (X kk)) ?_).mono fun e w' ⟨v, he, hv, h⟩ => ⟨by rw [he, hv], h⟩
  unfold mend_whole
  refine Ow.alloc H fun k3 w1 H1 => ?_
  rw [hdv]
  refine Ow.alloc H1 fun k5 w2 H2 => ?_
  have H2 : Ow (soK s bu (D 0)) [] w0 w2 (blk k5 #[dov] 79 :: blk k3 (rwC s n bu.length) 30 :: X 0) := H2
  refine ⟨_, _, _, _, _, _, _, _, _, ⟨H2.ld (b := k3) (c := rwC s n bu.length) (by repeat (first | exact List.Mem.head _ | refine List.Mem.tail _ ?_)) rfl, H2.ld (b := k3) (c := rwC s n bu.length) (by repeat (first | exact List.Mem.head _ | refine List.Mem.tail _ ?_)) rfl, H2.ld (b := k3) (c := rwC s n bu.length) (by repeat (first | exact List.Mem.head _ | refine List.Mem.tail _ ?_)) rfl, H2.ld (b := k3) (c := rwC s n bu.length) (by repeat (first | exact List.Mem.head _ | refine List.Mem.tail _ ?_)) rfl, H2.ld (b := k3) (c := rwC s n bu.length) (by repeat (first | exact List.Mem.head _ | refine List.Mem.tail _ ?_)) rfl⟩, ?_⟩
  refine (each_spec (s := s) (bu := bu) (N := kk) (n := n) (X := fun m => blk k5 #[dov] 79 :: blk k3 (rwC s n bu.length) 30 :: X m) (XZ := blk k5 #[dov] 79 :: blk k3 (rwC s n bu.length) 30 :: X kk) (D := D) (Z := D kk) (eZ := 0) rfl rfl hkk (Nat.le_refl _) H2 hD hrow (fun m ds hm hDm => ?_) (fun h => by omega) (fun _ => ⟨rfl, fun _ h => h, rfl⟩)).mono fun e w3 ⟨he, h3⟩ => ⟨_, he, rfl, h3.dropX.dropX⟩
  obtain ⟨L, hR, hcall⟩ := hgo m ds hm hDm
  refine ⟨L, [], hR, fun W Γ g c g' c' hW => CallF.func (by kernel_rfl) ?_⟩
  refine (mend_whole_1_calls (R := fun v w' => v = .int .i64 0 ∧ Ow (soK s bu (D (m + 1))) [] w0 w' (Γ ++ (blk k5 #[dov] 79 :: blk k3 (rwC s n bu.length) 30 :: X (m + 1)))) ?_).mono fun e w' ⟨v, he, hv, h⟩ => ⟨by rw [he, hv], h⟩
  unfold mend_whole_1
  refine no rfl ⟨dov, hW.ld (b := k5) (List.mem_cons_of_mem _ (List.mem_cons_of_mem _ (List.mem_append_right _ List.mem_cons_self))) rfl, ?_⟩
  have hW : Ow (seK s ds bu) [] w0 W (rowP 9 1 g L.length c (txts L) :: ((rowP 3 1 g' ([] : List Int).length c' (intsI []) :: (Γ ++ [blk k5 #[dov] 79, blk k3 (rwC s n bu.length) 30])) ++ X m)) := by
    rw [List.cons_append, List.append_assoc]; exact hW
  refine CallF.mono (hcall W _ g c hW) fun e w1 ⟨he, h1⟩ => ⟨_, he, rfl, ?_⟩
  rw [List.cons_append, List.append_assoc] at h1
  exact h1.dropX
/-- something is lost -/
theorem whole_lost {s : RwS} {bu : List Int} {row : Int} {w0 w : World} {X : List A} {ds : List Od} {L : List Txt} {l : List Int} {dov : Value} (hdv : Value.cells dov = #[dov]) (hds : scalar dov = true) (hk0 : 0 < s.k) (hl : 0 < l.length)
    (H : Ow (seK s ds bu) [] w0 w X) (hM : RMay s ds bu) (hF : FewL ds 1000000) (hrow : 0 ≤ row ∧ row < s.r) (hR : readR s ds bu row 0 = .ok (L, l)) :
    Calls Tryz.prog 34 #[.agg (rwC s ds.length bu.length), .int .i64 row, dov] w fun e w' => e = .returned (.int .i64 5) ∧ Ow (seK s ds bu) [] w0 w' X := by
  refine (mend_whole_calls (R := fun v w' => v = .int .i64 5 ∧ Ow (seK s ds bu) [] w0 w' X) ?_).mono fun e w' ⟨v, he, hv, h⟩ => ⟨by rw [he, hv], h⟩
  unfold mend_whole
  have H := so_shut (D := fun d => d = ds) rfl H
  refine Ow.alloc H fun k3 w1 H1 => ?_
  rw [hdv]
  refine Ow.alloc H1 fun k5 w2 H2 => ?_
  have H2 : Ow (soK s bu fun d => d = ds) [] w0 w2 (blk k5 #[dov] 79 :: blk k3 (rwC s ds.length bu.length) 30 :: X) := H2
  refine ⟨_, _, _, _, _, _, _, _, _, ⟨H2.ld (b := k3) (c := rwC s ds.length bu.length) (by repeat (first | exact List.Mem.head _ | refine List.Mem.tail _ ?_)) rfl, H2.ld (b := k3) (c := rwC s ds.length bu.length) (by repeat (first | exact List.Mem.head _ | refine List.Mem.tail _ ?_)) rfl, H2.ld (b := k3) (c := rwC s ds.length bu.length) (by repeat (first | exact List.Mem.head _ | refine List.Mem.tail _ ?_)) rfl, H2.ld (b := k3) (c := rwC s ds.length bu.length) (by repeat (first | exact List.Mem.head _ | refine List.Mem.tail _ ?_)) rfl, H2.ld (b := k3) (c := rwC s ds.length bu.length) (by repeat (first | exact List.Mem.head _ | refine List.Mem.tail _ ?_)) rfl⟩, ?_⟩
  refine (each_spec (s := s) (bu := bu) (kk := s.k.toNat) (N := 0) (n := ds.length) (X := fun _ => blk k5 #[dov] 79 :: blk k3 (rwC s ds.length bu.length) 30 :: X) (XZ := blk k5 #[dov] 79 :: blk k3 (rwC s ds.length bu.length) 30 :: X) (D := fun _ d => d = ds) (Z := fun d => d = ds) (eZ := 5) rfl rfl (by omega) (Nat.zero_le _) H2 (fun m d _ hd => by rw [hd]; exact ⟨rfl, hM, hF⟩) hrow (fun m ds hm => by omega) (fun _ => ⟨by decide, fun d hd => ?_⟩) (fun h => by omega)).mono fun e w3 ⟨he, h3⟩ => ⟨_, he, rfl, ?_⟩
  · subst hd
    refine ⟨L, l, hR, fun W Γ g c g' c' hW => CallF.func (by kernel_rfl) ?_⟩
    refine (mend_whole_1_calls (R := fun v w' => v = .int .i64 5 ∧ Ow (soK s bu fun d' => d' = d) [] w0 w' (Γ ++ (blk k5 #[dov] 79 :: blk k3 (rwC s d.length bu.length) 30 :: X))) ?_).mono fun e w' ⟨v, he, hv, h⟩ => ⟨by rw [he, hv], h⟩
    unfold mend_whole_1
    exact yes (decide_eq_true (by omega)) ⟨rfl, so_shut rfl hW.dropX.dropX⟩
  · obtain ⟨d, rfl, h⟩ := so_open h3.dropX.dropX
    exact h
theorem put19_spec {s : RwS} {ds : List Od} {bu : List Int} {w0 w : World} {X : List A} (H : Ow (seK s ds bu) [] w0 w X) (hl : ds.length ≤ 1000000) (hF : FewL ds 1000000) (row off role : Int) (x : ByteArray) :
    Calls Tryz.prog 40 #[.agg (rwC s ds.length bu.length), .int .i64 row, .int .i64 off, .int .i64 role, .string x] w fun e w' => e = .returned (.int .i64 (if writeE s ds bu row off role x = 42 then 42 else 0)) ∧ Ow (seK s (writeD s ds bu row off role x) bu) [] w0 w' X := by
  refine (mend_put_calls (R := fun v w' => v = .int .i64 (if writeE s ds bu row off role x = 42 then 42 else 0) ∧ Ow (seK s (writeD s ds bu row off role x) bu) [] w0 w' X) ?_).mono fun e w' ⟨v, he, hv, h⟩ => ⟨by rw [he, hv], h⟩
  unfold mend_put
  refine Ow.alloc H fun k5 w1 H1 => ?_
  have H1 : Ow (seK s ds bu) [] w0 w1 (blk k5 (rwC s ds.length bu.length) 30 :: X) := H1
  refine ⟨_, _, _, _, _, _, _, _, _, ⟨H1.ld (b := k5) (c := rwC s ds.length bu.length) (by repeat (first | exact List.Mem.head _ | refine List.Mem.tail _ ?_)) rfl, H1.ld (b := k5) (c := rwC s ds.length bu.length) (by repeat (first | exact List.Mem.head _ | refine List.Mem.tail _ ?_)) rfl, H1.ld (b := k5) (c := rwC s ds.length bu.length) (by repeat (first | exact List.Mem.head _ | refine List.Mem.tail _ ?_)) rfl, H1.ld (b := k5) (c := rwC s ds.length bu.length) (by repeat (first | exact List.Mem.head _ | refine List.Mem.tail _ ?_)) rfl, H1.ld (b := k5) (c := rwC s ds.length bu.length) (by repeat (first | exact List.Mem.head _ | refine List.Mem.tail _ ?_)) rfl⟩, ?_⟩
  refine (se_write H1 hl hF row off role x).mono fun e w2 ⟨he, h2⟩ => ⟨_, he, beq_t fun h => ⟨by rw [if_pos h], h2.dropX⟩, beq_f fun h => ⟨by rw [if_neg h], h2.dropX⟩⟩
theorem done19_err {h : Kd} {s : RwS} {n m : Nat} {w0 w : World} {X : List A} (H : Ow h [] w0 w X) {x : Int} (hx : x ≠ 0) : Calls Tryz.prog 37 #[.agg (rwC s n m), .int .i64 x] w fun e w' => e = .returned (.int .i64 x) ∧ Ow h [] w0 w' X := by
  refine (mend_done_calls (R := fun v w' => v = .int .i64 x ∧ Ow h [] w0 w' X) ?_).mono fun e w' ⟨v, he, hv, h⟩ => ⟨by rw [he, hv], h⟩
  unfold mend_done
  exact Ow.alloc H fun k2 w1 H1 => yes (by simpa using hx) ⟨rfl, H1.dropX⟩
theorem done19_ok {s : RwS} {ds : List Od} {bu : List Int} {w0 w : World} {X : List A} (H : Ow (seK s ds bu) [] w0 w X) (hl : ds.length ≤ 1000000) (hF : FewL ds 1000000) (hM : RMay s ds bu) :
    Calls Tryz.prog 37 #[.agg (rwC s ds.length bu.length), .int .i64 0] w fun e w' => e = .returned (.int .i64 (if ds.any offO then 42 else 0)) ∧ Ow (seK s (ds.map flushO) bu) [] w0 w' X := by
  refine (mend_done_calls (R := fun v w' => v = .int .i64 (if ds.any offO then 42 else 0) ∧ Ow (seK s (ds.map flushO) bu) [] w0 w' X) ?_).mono fun e w' ⟨v, he, hv, h⟩ => ⟨by rw [he, hv], h⟩
  unfold mend_done
  refine Ow.alloc H fun k2 w1 H1 => no rfl ?_
  have H1 : Ow (seK s ds bu) [] w0 w1 (blk k2 (rwC s ds.length bu.length) 30 :: X) := H1
  refine ⟨_, _, _, _, _, _, _, _, _, ⟨H1.ld (b := k2) (c := rwC s ds.length bu.length) (by repeat (first | exact List.Mem.head _ | refine List.Mem.tail _ ?_)) rfl, H1.ld (b := k2) (c := rwC s ds.length bu.length) (by repeat (first | exact List.Mem.head _ | refine List.Mem.tail _ ?_)) rfl, H1.ld (b := k2) (c := rwC s ds.length bu.length) (by repeat (first | exact List.Mem.head _ | refine List.Mem.tail _ ?_)) rfl, H1.ld (b := k2) (c := rwC s ds.length bu.length) (by repeat (first | exact List.Mem.head _ | refine List.Mem.tail _ ?_)) rfl, H1.ld (b := k2) (c := rwC s ds.length bu.length) (by repeat (first | exact List.Mem.head _ | refine List.Mem.tail _ ?_)) rfl⟩, ?_⟩
  have hf := se_flush H1 hl hF
  rw [if_pos hM, if_pos hM] at hf
  exact hf.mono fun e w2 ⟨he, h2⟩ => ⟨_, he, rfl, h2.dropX⟩
end Go.Proofs.YtedbbdeeofdepaaGreatDoor
end
section
/-! mend: Rebuild. -/
namespace Go.Proofs.YtedbbdeeofdepaaGreatDoor
open Go.Sh Go.RowKit
set_option linter.unusedVariables false
set_option linter.unusedSimpArgs false
set_option maxRecDepth 20000
set_option maxHeartbeats 1000000
theorem cloneI_spec {L : List Int} (hl : L.length ≤ 1000000) {p : Option Addr} {c : Nat} {w : World} (h : intsL w p L) :
    Calls Tryz.prog 54 #[.slice p L.length c] w fun e w' => ∃ g cap, e = .returned (.slice (ptr g) L.length cap) ∧ T [] w w' [rowP 3 1 g L.length cap (intsI L)] := by
  refine (slices_Clone_int_int_calls (R := fun v w' => ∃ g cap, v = .slice (ptr g) L.length cap ∧ T [] w w' [rowP 3 1 g L.length cap (intsI L)]) ?_).mono fun e w' ⟨v, he, g, cap, hv, h⟩ => ⟨g, cap, by rw [he, hv], h⟩
  unfold slices_Clone_int_int
  refine ⟨fun hp => ?_, fun hp => ?_⟩
  · have hp : p = none := by simpa using hp
    have : L = [] := by
      cases L with
      | nil => rfl
      | cons x L => obtain ⟨a, ha⟩ := h.1 (by simp); rw [hp] at ha; cases ha
    subst this
    exact ⟨none, 0, rfl, T.nilRow (T.nil w) _ _⟩
  · obtain ⟨a, rfl⟩ : ∃ a, p = some a := by
      cases p with
      | none => cases hp
      | some a => exact ⟨a, rfl⟩
    refine Alloc.t (T.nil w) fun k5 w1 h1 => ?_
    have h1 : T [] w w1 [rowP 3 1 (some k5) 0 0 []] := blk_row h1 rfl rfl (by decide)
    obtain ⟨g', cap', w2, hr, h2⟩ := append_t (P := Tryz.prog) (t := 28) (ty := 28) (e := 3) (i := Tryz.t3) (z := .int .i64 0) (size := 1) #[false, false] (by kernel_rfl) (by kernel_rfl) (by kernel_rfl) (by kernel_rfl) (by rfl)
      h1 .head (a := a) (m := L.length) (c := c) (news := intsI L) (by rw [Nat.mul_one, intsI_len]) (fun j u hu => by
        unfold intsI at hu
        rw [List.getElem?_map] at hu
        cases hq : L[j]? with
        | none => rw [hq] at hu; cases hu
        | some x => rw [hq] at hu; cases hu; exact (h.ext' h1.chg.ext).2 a rfl j x hq) (fun u hu => by
        obtain ⟨x, _, rfl⟩ := List.mem_map.1 hu
        rfl) (by simp only [maxLen]; omega) (by
        have : (Tryz.t3).bytes = 8 := by kernel_rfl
        rw [this]; omega)
    refine ⟨_, _, _, w2, hr, g', cap', by rw [Nat.zero_add], ?_⟩
    rw [Nat.zero_add] at h2
    exact h2
/-- one that lies in a cell is appended -/
theorem app1_ow {h : Kd} {F : List Nat} {w0 w : World} {X Δ : List A} {t e : TypeId} {i : TypeInfo} {z v : Value} (ht : Tryz.prog.underlying t = some (.slice e)) (hi : Tryz.prog.info? e = some i) (hz : i.zero = some z) (hsize : i.size = 1) (hzs : z.cells.size = 1) (hby : decide (i.bytes ≤ 1000000) = true)
    {g : Option Nat} {n cap : Nat} {xs : List Value} {k : Nat} (H : Ow h F w0 w X) (hk : Pick (rowP e 1 g n cap xs) X Δ) (hm : blk k #[v] e ∈ X) (hv : v.oneCell' = true) (hn : n ≤ 1000000) {K : Option Addr → Nat → Nat → World → Prop}
    (hK : ∀ g' cap' w', Ow h F w0 w' (rowP e 1 (some g') (n + 1) cap' (xs ++ [v]) :: Δ) → K (some ⟨g', 0, none⟩) (n + 1) cap' w') :
    ∃ (p : Option Addr) (l c : Nat), ∃ w2, (builtin .append #[t, t] t #[false, false] #[.slice (ptr g) n cap, .slice (some ⟨k, 0, none⟩) 1 1]).run Tryz.prog w = .ok (.value (.slice p l c)) w2 ∧ K p l c w2 := by
  obtain ⟨Y, hY, hT⟩ := H
  have hby' : i.bytes ≤ 1000000 := of_decide_eq_true hby
  have hmul : (n + 1) * i.bytes ≤ 1000001 * 1000000 := Nat.mul_le_mul (by omega) hby'
  obtain ⟨g', cap', w', hr, hT'⟩ := append_t (ty := t) #[false, false] ht hi hz hsize hzs hT (hk.app Y) (a := ⟨k, 0, none⟩) (m := 1) (c := 1) (news := [v]) rfl (fun j u hu => by
      rw [addr_add, Nat.zero_add]
      exact hT.ld (List.mem_append_left _ hm) (by simpa using hu)) (fun u hu => by obtain rfl := List.mem_singleton.1 hu; exact hv) (by simp only [maxLen]; omega) (by omega)
  obtain ⟨b, rfl⟩ := rowP.pos (hT'.says List.mem_cons_self) (by omega)
  exact ⟨_, _, _, w', hr, hK b cap' w' ⟨Y, hY, hT'⟩⟩
/-- a role among those that are lost -/
def appR (l : List Int) (r : Int) : List Int := if r ∈ l then l else l ++ [r]
theorem read_short {s : RwS} {ds : List Od} {bu : List Int} {w : World} (h : RwW s ds bu w) {row off : Int} {L : List Txt} {l : List Int} (hR : readR s ds bu row off = .ok (L, l)) : Short L ∧ L.length ≤ s.c.toNat ∧ l.length ≤ s.c.toNat := by
  obtain ⟨hz, h42, hX, hL⟩ := readR_ok hR
  refine ⟨fun x hx => ?_, by rw [hX, colX_len]; exact Nat.le_refl _, by rw [hL]; exact colL_le _ _⟩
  rw [hX] at hx
  obtain ⟨i, _, rfl⟩ := List.mem_map.1 hx
  have := secR_size h row off i
  have h3 : ((secR s ds bu row off (i : Int)).1.data.toList).length = (secR s ds bu row off (i : Int)).1.size := by rw [Array.length_toList]; rfl
  show ((secR s ds bu row off (i : Int)).1.data.toList).length ≤ _
  omega
open Classical in
/-- one place is rebuilt -/
theorem reb1_spec {s : RwS} {ds : List Od} {bu : List Int} {row r : Int} {m : Nat} {w0 w : World} {Y : List A} {k7 k3 k4 : Nat} {L : List Txt} {l : List Int} {g g' : Option Nat} {c c' : Nat}
    (H : Ow (seK s ds bu) [] w0 w (rowP 9 1 g L.length c (txts L) :: rowP 3 1 g' l.length c' (intsI l) :: Y)) (m7 : blk k7 #[.int .i64 r] 3 ∈ Y) (m3 : blk k3 (rwC s ds.length bu.length) 30 ∈ Y) (m4 : blk k4 #[.int .i64 row] 3 ∈ Y)
    (hM : RMay s ds bu) (hF : FewL ds 1000000) (hR : readR s ds bu row m = .ok (L, l)) (hr0 : 0 ≤ r ∧ r < s.c) (hO : OkM L (appR l r)) :
    Calls Tryz.prog 52 #[.int .i64 (m : Int), .slice (ptr g) L.length c, .slice (ptr g') l.length c', .pointer (some ⟨k7, 0, none⟩), .pointer (some ⟨k3, 0, none⟩), .pointer (some ⟨k4, 0, none⟩)] w fun e w' =>
      if (appR l r).length ≤ 2 then e = .returned (.int .i64 (if writeE s ds bu row m r (strB ((fillF L (appR l r)).getD r.toNat [])) = 42 then 42 else 0)) ∧ Ow (seK s (writeD s ds bu row m r (strB ((fillF L (appR l r)).getD r.toNat []))) bu) [] w0 w' Y
      else e = .returned (.int .i64 60) ∧ Ow (seK s ds bu) [] w0 w' Y := by
  refine (mend_Rebuild_1_calls (R := fun v w' => if (appR l r).length ≤ 2 then v = (.int .i64 (if writeE s ds bu row m r (strB ((fillF L (appR l r)).getD r.toNat [])) = 42 then 42 else 0)) ∧ Ow (seK s (writeD s ds bu row m r (strB ((fillF L (appR l r)).getD r.toNat []))) bu) [] w0 w' Y
      else v = (.int .i64 60) ∧ Ow (seK s ds bu) [] w0 w' Y) ?_).mono fun e w' ⟨v, he, h⟩ => by
    by_cases h2 : (appR l r).length ≤ 2
    · rw [if_pos h2] at h ⊢
      exact ⟨by rw [he, h.1], h.2⟩
    · rw [if_neg h2] at h ⊢
      exact ⟨by rw [he, h.1], h.2⟩
  unfold mend_Rebuild_1
  obtain ⟨hS, hLl, hll⟩ := read_short (se_w H) hR
  have hc := hM.1.1
  have hc2 := hM.1.2.1
  have hdl := hM.2.1
  have hLen : L.length = s.c.toNat := by obtain ⟨_, _, hX, _⟩ := readR_ok hR; rw [hX, colX_len]
  have mY : ∀ {x : A} {W : List A}, x ∈ Y → x ∈ W ++ Y := fun h => List.mem_append_right _ h
  refine Join.intro fun J hJ => ?_
  have hJ : ∀ (q : Option Addr) (d : Nat) (w' : World) (W : List A), Ow (seK s ds bu) [] w0 w' (W ++ rowP 9 1 g L.length c (txts L) :: rowP 3 1 g' l.length c' (intsI l) :: Y) → intsL w' q (appR l r) → J [.slice q (appR l r).length d] w' := by
    intro q d w1 W H1 hq
    refine hJ _ _ ⟨_, _, _, rfl, ?_⟩
    have s1 := (T.strs H1.under (g := g) (L := L) (n := L.length) (cap := c) (List.mem_append_right _ List.mem_cons_self)).1
    have hla : (appR l r).length ≤ l.length + 1 := by
      unfold appR
      split
      · omega
      · rw [List.length_append]; exact Nat.le_refl _
    have H2 : Ow (seK s ds bu) [] w0 w1 Y := by
      have h3 := Ow.perm H1 (List.perm_append_comm (l₁ := W))
      exact (Ow.leave (X := rowP 9 1 g L.length c (txts L) :: rowP 3 1 g' l.length c' (intsI l) :: Y) h3).dropX.dropX
    refine (fill_spec (by omega) (by omega) hS s1 hq (c := c) (d := d)).mono fun e w2 hh => ?_
    rcases hh with ⟨_, h2, b, cap, he, hT⟩ | ⟨n, hn, he, hx, h1', h2'⟩
    · refine ⟨_, _, _, _, he, no rfl ?_⟩
      have hfl : (fillF L (appR l r)).length = L.length := fillF_len _ _
      have H3 := (Ow.new H2 hT).drew
      have hs3 : ∀ {h : Kd} {w' : World}, Ow h [] w0 w' ([rowP 9 1 (some b) L.length cap (txts (fillF L (appR l r)))] ++ Y) → ∃ a, ptr (some b) = some a ∧ w'.cell? (a.add (r.toNat * 1)) = some (.string (strB ((fillF L (appR l r)).getD r.toNat []))) := fun h' =>
        (T.strs h'.under (g := some b) (L := fillF L (appR l r)) (n := L.length) (cap := cap) (by repeat (first | exact List.Mem.head _ | refine List.Mem.tail _ ?_))).1.get (n := r.toNat) (by omega)
      obtain ⟨a0, ha0, _⟩ := hs3 H3
      have cA : ∀ {h : Kd} {w' : World} {W : List A}, Ow h [] w0 w' (W ++ Y) → ∀ i v, (rwC s ds.length bu.length)[0 + i]? = some v → w'.cell? (Addr.add ⟨k3, 0, none⟩ i) = some v := fun h' i v hv => by
        rw [addr_add]
        exact h'.ld (mY m3) hv
      refine ⟨fun w' => ∃ h, Ow h [] w0 w' ([rowP 9 1 (some b) L.length cap (txts (fillF L (appR l r)))] ++ Y), ⟨_, H3⟩, _, _, _, _, _, _, _, _, _, fun w' ⟨h, h'⟩ => ⟨h'.ld (c := rwC s ds.length bu.length) (mY m3) rfl, cA h' 1 _ rfl, cA h' 2 _ rfl, cA h' 3 _ rfl, cA h' 4 _ rfl⟩, _, fun w' ⟨h, h'⟩ => h'.ld (mY m4) rfl, _, fun w' ⟨h, h'⟩ => h'.ld (mY m7) rfl, _, fun w' ⟨h, h'⟩ => h'.ld (mY m7) rfl, a0, ha0, by omega, by omega, strB ((fillF L (appR l r)).getD r.toNat []), fun w' ⟨h, h'⟩ => ?_, ?_⟩
      · obtain ⟨a1, ha1, hc1⟩ := hs3 h'
        rw [ha0] at ha1; cases ha1
        exact hc1
      · exact (put19_spec H3 (by omega) hF row m r _).mono fun e w3 ⟨he3, H4⟩ => ⟨_, he3, ⟨_, H4⟩, by show ite _ _ _; rw [if_pos h2]; exact ⟨rfl, H4.dropX⟩⟩
    · refine ⟨_, _, _, _, he, yes (by simpa using hn) ?_⟩
      obtain ⟨h3, rfl⟩ := h1' hO
      show ite _ _ _
      rw [if_neg (by omega)]
      exact ⟨rfl, H2.quiet hx⟩
  have hi := (T.ints H.under (g := g') (n := l.length) (cap := c') (l := l) (by repeat (first | exact List.Mem.head _ | refine List.Mem.tail _ ?_))).1
  refine ⟨r, H.ld (b := k7) (List.mem_cons_of_mem _ (List.mem_cons_of_mem _ m7)) rfl, ?_⟩
  refine (contains_spec (by omega) r hi).mono fun e w1 ⟨he1, hx1⟩ => ⟨_, he1, ?_⟩
  have H1 := H.quiet hx1
  by_cases hm : r ∈ l
  · refine no (by rw [decide_eq_true hm]; rfl) ?_
    have e1 : appR l r = l := if_pos hm
    have := hJ (ptr g') c' w1 [] H1 (by rw [e1]; exact hi.ext' hx1)
    rw [e1] at this
    exact this
  refine yes (by rw [decide_eq_false hm]; rfl) ?_
  have e1 : appR l r = l ++ [r] := if_neg hm
  have e2 : intsI l ++ [.int .i64 r] = intsI (appR l r) := by rw [e1]; exact intsI_snoc l r
  have e3 : (appR l r).length = l.length + 1 := by rw [e1]; simp
  have H1 := H1.drew
  have c7 : ∀ {w' : World}, (∃ (W : List A), Ow (seK s ds bu) [] w0 w' (W ++ rowP 9 1 g L.length c (txts L) :: rowP 3 1 g' l.length c' (intsI l) :: Y)) → w'.cell? ⟨k7, 0, none⟩ = some (.int .i64 r) := fun ⟨W, h'⟩ => h'.ld (b := k7) (List.mem_append_right _ (List.mem_cons_of_mem _ (List.mem_cons_of_mem _ m7))) rfl
  have hcl : ∀ {w' : World} {W : List A}, Ow (seK s ds bu) [] w0 w' (W ++ rowP 9 1 g L.length c (txts L) :: rowP 3 1 g' l.length c' (intsI l) :: Y) → intsL w' (ptr g') l := fun h' => (T.ints h'.under (g := g') (n := l.length) (cap := c') (l := l) (List.mem_append_right _ (by repeat (first | exact List.Mem.head _ | refine List.Mem.tail _ ?_)))).1
  refine ⟨fun w' => ∃ (W : List A), Ow (seK s ds bu) [] w0 w' (W ++ rowP 9 1 g L.length c (txts L) :: rowP 3 1 g' l.length c' (intsI l) :: Y), ⟨[], H1⟩, r, fun w' h' => c7 h', ?_, ?_⟩
  · refine (cloneI_spec (by omega) (c := c') (hcl (W := []) H1)).mono fun e w2 ⟨g2, cap2, he2, hT2⟩ => ⟨_, _, _, he2, ?_⟩
    have H2 := Ow.new H1 hT2
    refine ⟨⟨_, H2⟩, H2.alloc fun k19 w3 H3 => ⟨⟨_ :: _, H3⟩, ?_⟩⟩
    refine app1_ow (i := Tryz.t3) (z := .int .i64 0) (v := .int .i64 r) (g := g2) (by kernel_rfl) (by kernel_rfl) (by kernel_rfl) (by kernel_rfl) (by kernel_rfl) (by kernel_rfl) H3 (.tail .head) List.mem_cons_self rfl (by omega) fun g3 cap3 w4 H4 => ?_
    rw [e2] at H4
    refine ⟨⟨[_, _], H4⟩, ?_⟩
    have := hJ (some ⟨g3, 0, none⟩) cap3 w4 [_, _] H4 (T.ints H4.under (g := some g3) (n := l.length + 1) (cap := cap3) (l := appR l r) (by repeat (first | exact List.Mem.head _ | refine List.Mem.tail _ ?_))).1
    rw [e3] at this
    exact this
  · refine H1.alloc fun k19 w2 H2 => ⟨⟨[_], H2⟩, ?_⟩
    refine (cloneI_spec (by omega) (c := c') (hcl (W := [_]) H2)).mono fun e w3 ⟨g2, cap2, he2, hT2⟩ => ⟨_, _, _, he2, ?_⟩
    have H3 := Ow.new H2 hT2
    refine ⟨⟨[_, _], H3⟩, ?_⟩
    refine app1_ow (i := Tryz.t3) (z := .int .i64 0) (v := .int .i64 r) (g := g2) (by kernel_rfl) (by kernel_rfl) (by kernel_rfl) (by kernel_rfl) (by kernel_rfl) (by kernel_rfl) H3 .head (k := k19) (by repeat (first | exact List.Mem.head _ | refine List.Mem.tail _ ?_)) rfl (by omega) fun g3 cap3 w4 H4 => ?_
    rw [e2] at H4
    refine ⟨⟨[_, _], H4⟩, ?_⟩
    have := hJ (some ⟨g3, 0, none⟩) cap3 w4 [_, _] H4 (T.ints H4.under (g := some g3) (n := l.length + 1) (cap := cap3) (l := appR l r) (by repeat (first | exact List.Mem.head _ | refine List.Mem.tail _ ?_))).1
    rw [e3] at this
    exact this
end Go.Proofs.YtedbbdeeofdepaaGreatDoor
end
section
/-! scrub: zero, multiples. -/
namespace Go.Proofs.YtedbbdeeofdepaaGreatDoor
open Go.Sh Go.RowKit
set_option linter.unusedVariables false
set_option linter.unusedSimpArgs false
set_option maxRecDepth 20000
set_option maxHeartbeats 2000000
/-- bytes 0 alone -/
def zB (l : Txt) : Bool := l.all fun x => x == 0
theorem zero_spec (l : Txt) (hl : l.length ≤ 1000000000) (w : World) : Ret Tryz.prog 69 #[.string (strB l)] w (.bool (zB l)) := by
  refine ret_of (scrub_zero_calls ?_)
  unfold scrub_zero
  refine (trim_spec l hl w).mono fun e w1 ⟨m, he, hm, hx⟩ => ⟨_, he, ?_, hx⟩
  rw [strB_toList]
  congr 1
  have e0 : (ByteArray.mk #[]).toList = [] := strB_toList []
  rw [e0]
  have hz : zB l = true ↔ ∀ x ∈ l, x = 0 := by unfold zB; simp
  by_cases h : m = []
  · rw [hz.2 (hm.1 h), h]; rfl
  · have : zB l = false := Bool.eq_false_iff.2 fun h' => h (hm.2 (hz.1 h'))
    rw [this]
    simpa using h
/-- a text, times a power -/
def mulX (l : Txt) (i : Nat) : Txt := timesL l (ex i)
theorem mulX_zero (l : Txt) : mulX l 0 = l := by
  unfold mulX timesL
  conv => rhs; rw [← List.map_id l]
  apply List.map_congr_left
  intro x _
  rw [mulG_ex]; rfl
theorem mulX_next (l : Txt) (i : Nat) : timesL (mulX l i) 2 = mulX l (i + 1) := by
  unfold mulX timesL
  rw [List.map_map]
  apply List.map_congr_left
  intro x _
  show mulG (mulG x (ex i)) 2 = _
  rw [show (2 : UInt8) = ex 1 from rfl, mulG_ex, mulG_ex, mulG_ex]; rfl
theorem mulX_len (l : Txt) (i : Nat) : (mulX l i).length = l.length := timesL_len l _
theorem mulX_get (l : Txt) (i j : Nat) : (mulX l i).getD j 0 = xp i (l.getD j 0) := by unfold mulX; rw [timesL_get, mulG_ex]
section
variable {F : List Nat} {w0 : World} {Γ : List A} {l : Txt} {n k2 k3 : Nat} {yv : Value} {x y : A}
/-- so far, and no further -/
theorem multiples_stop {N : Nat} {z : A} {Out : List A → Prop} (hl : l.length ≤ 1000000) (hN : N < n) (hn : n ≤ 1000)
    (hyes : ∀ k W, k < N → T F w0 W (x :: y :: blk k3 #[.int .i64 (n : Int)] 3 :: blk k2 #[.string (strB (mulX l k))] 9 :: Γ) → CallF Tryz.prog yv [.int .i64 (k : Int), .string (strB (mulX l k))] W fun e w' => e = .returned (.bool true) ∧ T F w0 w' (x :: y :: blk k3 #[.int .i64 (n : Int)] 3 :: blk k2 #[.string (strB (mulX l k))] 9 :: Γ))
    (hno : ∀ W, T F w0 W (x :: y :: blk k3 #[.int .i64 (n : Int)] 3 :: blk k2 #[.string (strB (mulX l N))] 9 :: Γ) → CallF Tryz.prog yv [.int .i64 (N : Int), .string (strB (mulX l N))] W fun e w' => e = .returned (.bool false) ∧ ∃ Γ', Out Γ' ∧ T F w0 w' (z :: y :: Γ'))
    (W : World) (hW : T F w0 W (x :: y :: blk k3 #[.int .i64 (n : Int)] 3 :: blk k2 #[.string (strB l)] 9 :: Γ)) :
    Calls Tryz.prog 104 #[yv, .pointer (some ⟨k3, 0, none⟩), .pointer (some ⟨k2, 0, none⟩)] W fun e w' => (∃ v, e = .returned v) ∧ ∃ Γ', Out Γ' ∧ T F w0 w' (z :: y :: Γ') := by
  refine (scrub_multiples_1_calls (R := fun v w' => ∃ Γ', Out Γ' ∧ T F w0 w' (z :: y :: Γ')) ?_).mono fun e w' ⟨v, he, h⟩ => ⟨⟨v, he⟩, h⟩
  unfold scrub_multiples_1
  refine ⟨_, hW.ld (b := k3) (by repeat (first | exact List.Mem.head _ | refine List.Mem.tail _ ?_)) rfl, ?_⟩
  refine ⟨fun vs w' => ∃ k : Nat, vs = [.int .i64 (k : Int)] ∧ k ≤ N ∧ T F w0 w' (x :: y :: blk k3 #[.int .i64 (n : Int)] 3 :: blk k2 #[.string (strB (mulX l k))] 9 :: Γ), fun vs _ => match vs with | [.int _ k] => (N - k).toNat | _ => 0, ⟨0, rfl, by omega, by rw [mulX_zero]; exact hW⟩, ?_⟩
  rintro vs w1 ⟨k, rfl, hk, h1⟩
  refine ⟨_, rfl, yes (decide_eq_true (by omega)) ⟨_, h1.ld (b := k2) (by repeat (first | exact List.Mem.head _ | refine List.Mem.tail _ ?_)) rfl, ?_⟩⟩
  by_cases hlt : k < N
  · refine CallF.mono (hyes k w1 hlt h1) fun e w2 ⟨he, h2⟩ => ⟨true, he, no rfl ⟨_, h2.ld (b := k2) (by repeat (first | exact List.Mem.head _ | refine List.Mem.tail _ ?_)) rfl, ?_⟩⟩
    refine (times_spec (strB (mulX l k)) 2 (by rw [strB_size, mulX_len]; omega) w2).mono fun e w3 ⟨he, hx3⟩ => ⟨_, he, ?_⟩
    have e3 : timesL (strB (mulX l k)).data.toList 2 = mulX l (k + 1) := mulX_next l k
    rw [e3]
    refine St.t (h2.quiet hx3) (by repeat (first | exact Turn.head | apply Turn.tail)) (by simp) (by rfl) rfl fun w4 h4 => ⟨⟨k + 1, ?_, by omega, h4⟩, ?_⟩
    · rw [wrap64 _ (by omega) (by omega)]; rfl
    · show ((N : Int) - IntKind.i64.wrap ((k : Int) + 1)).toNat < ((N : Int) - (k : Int)).toNat
      rw [wrap64 _ (by omega) (by omega)]; omega
  · have : k = N := by omega
    subst this
    exact CallF.mono (hno w1 h1) fun e w2 ⟨he, h2⟩ => ⟨false, he, yes rfl h2⟩
/-- all of them -/
theorem multiples_all (hl : l.length ≤ 1000000) (hn : n ≤ 1000)
    (hyes : ∀ k W, k < n → T F w0 W (x :: y :: blk k3 #[.int .i64 (n : Int)] 3 :: blk k2 #[.string (strB (mulX l k))] 9 :: Γ) → CallF Tryz.prog yv [.int .i64 (k : Int), .string (strB (mulX l k))] W fun e w' => e = .returned (.bool true) ∧ T F w0 w' (x :: y :: blk k3 #[.int .i64 (n : Int)] 3 :: blk k2 #[.string (strB (mulX l k))] 9 :: Γ))
    (W : World) (hW : T F w0 W (x :: y :: blk k3 #[.int .i64 (n : Int)] 3 :: blk k2 #[.string (strB l)] 9 :: Γ)) :
    Calls Tryz.prog 104 #[yv, .pointer (some ⟨k3, 0, none⟩), .pointer (some ⟨k2, 0, none⟩)] W fun e w' => (∃ v, e = .returned v) ∧ T F w0 w' (x :: y :: blk k3 #[.int .i64 (n : Int)] 3 :: blk k2 #[.string (strB (mulX l n))] 9 :: Γ) := by
  refine (scrub_multiples_1_calls (R := fun v w' => T F w0 w' (x :: y :: blk k3 #[.int .i64 (n : Int)] 3 :: blk k2 #[.string (strB (mulX l n))] 9 :: Γ)) ?_).mono fun e w' ⟨v, he, h⟩ => ⟨⟨v, he⟩, h⟩
  unfold scrub_multiples_1
  refine ⟨_, hW.ld (b := k3) (by repeat (first | exact List.Mem.head _ | refine List.Mem.tail _ ?_)) rfl, ?_⟩
  refine ⟨fun vs w' => ∃ k : Nat, vs = [.int .i64 (k : Int)] ∧ k ≤ n ∧ T F w0 w' (x :: y :: blk k3 #[.int .i64 (n : Int)] 3 :: blk k2 #[.string (strB (mulX l k))] 9 :: Γ), fun vs _ => match vs with | [.int _ k] => (n - k).toNat | _ => 0, ⟨0, rfl, by omega, by rw [mulX_zero]; exact hW⟩, ?_⟩
  rintro vs w1 ⟨k, rfl, hk, h1⟩
  refine ⟨_, rfl, dec_t fun hlt => ⟨_, h1.ld (b := k2) (by repeat (first | exact List.Mem.head _ | refine List.Mem.tail _ ?_)) rfl, ?_⟩, dec_f fun hge => ?_⟩
  · have hlt : k < n := by omega
    refine CallF.mono (hyes k w1 hlt h1) fun e w2 ⟨he, h2⟩ => ⟨true, he, no rfl ⟨_, h2.ld (b := k2) (by repeat (first | exact List.Mem.head _ | refine List.Mem.tail _ ?_)) rfl, ?_⟩⟩
    refine (times_spec (strB (mulX l k)) 2 (by rw [strB_size, mulX_len]; omega) w2).mono fun e w3 ⟨he, hx3⟩ => ⟨_, he, ?_⟩
    have e3 : timesL (strB (mulX l k)).data.toList 2 = mulX l (k + 1) := mulX_next l k
    rw [e3]
    refine St.t (h2.quiet hx3) (by repeat (first | exact Turn.head | apply Turn.tail)) (by simp) (by rfl) rfl fun w4 h4 => ⟨⟨k + 1, ?_, by omega, h4⟩, ?_⟩
    · rw [wrap64 _ (by omega) (by omega)]; rfl
    · show ((n : Int) - IntKind.i64.wrap ((k : Int) + 1)).toNat < ((n : Int) - (k : Int)).toNat
      rw [wrap64 _ (by omega) (by omega)]; omega
  · have hke : k = n := by omega
    subst hke
    exact h1
end
end Go.Proofs.YtedbbdeeofdepaaGreatDoor
end
section
/-! scrub: Judge, Repair, Parity. -/
namespace Go.Proofs.YtedbbdeeofdepaaGreatDoor
open Go.Sh Go.RowKit
set_option linter.unusedVariables false
set_option linter.unusedSimpArgs false
set_option maxRecDepth 20000
set_option maxHeartbeats 2000000
/-- the first column that would tell both sums -/
def firstK (p q : Txt) (n : Nat) : Option Nat := (List.range n).find? fun i => decide (mulX p i = q)
theorem firstK_some {p q : Txt} {n k : Nat} (h : firstK p q n = some k) : k < n ∧ mulX p k = q ∧ ∀ j, j < k → mulX p j ≠ q := by
  unfold firstK at h
  rw [List.find?_range_eq_some] at h
  obtain ⟨h1, h2, h3⟩ := h
  exact ⟨List.mem_range.1 h2, of_decide_eq_true h1, fun j hj => by simpa using h3 j hj⟩
theorem firstK_none {p q : Txt} {n : Nat} (h : firstK p q n = none) : ∀ j, j < n → mulX p j ≠ q := by
  unfold firstK at h
  rw [List.find?_range_eq_none] at h
  exact fun j hj => by simpa using h j hj
theorem firstK_is {p q : Txt} {n k : Nat} (h1 : k < n) (h2 : mulX p k = q) (h3 : ∀ j, j < k → mulX p j ≠ q) : firstK p q n = some k := by
  unfold firstK
  rw [List.find?_range_eq_some]
  exact ⟨decide_eq_true h2, List.mem_range.2 h1, fun j hj => by simpa using h3 j hj⟩
/-- the verdict of a row that may be judged -/
def judPQ (P Q : Txt) (n : Nat) : Int × Int :=
  if zB P then (if zB Q then ((0 : Int), (0 : Int)) else ((1 : Int), ((n + 1 : Nat) : Int)))
  else if zB Q then ((1 : Int), ((n : Nat) : Int))
  else match firstK P Q n with
    | some k => ((1 : Int), ((k : Nat) : Int))
    | none => ((2 : Int), (0 : Int))
def judV (L : List Txt) : Int × Int := judPQ (synP L) (synQ L) (L.length - 2)
theorem res3 {F : List Nat} {w0 w : World} {Γ : List A} {k6 k4 k3 k2 : Nat} {t6 t4 t3 t2 : TypeId} {c6 : Array Value} {x y z : Int} (a b c : Int) (hT : T F w0 w (blk k6 c6 t6 :: blk k4 #[.int .i64 z] t4 :: blk k3 #[.int .i64 y] t3 :: blk k2 #[.int .i64 x] t2 :: Γ)) {Q : Int → Int → Int → World → Prop} (hQ : ∀ w', Ext w0 w' ∨ True → T F w0 w' (blk k6 c6 t6 :: blk k4 #[.int .i64 c] t4 :: blk k3 #[.int .i64 b] t3 :: blk k2 #[.int .i64 a] t2 :: Γ) → Q a b c w') :
    St ⟨k2, 0, none⟩ (.int .i64 a) w fun w5 => St ⟨k3, 0, none⟩ (.int .i64 b) w5 fun w6 => St ⟨k4, 0, none⟩ (.int .i64 c) w6 fun w7 =>
      ∃ n2 : Int, w7.cell? ⟨k2, 0, none⟩ = some (.int .i64 n2) ∧ ∃ n3 : Int, w7.cell? ⟨k3, 0, none⟩ = some (.int .i64 n3) ∧ ∃ n4 : Int, w7.cell? ⟨k4, 0, none⟩ = some (.int .i64 n4) ∧ Q n2 n3 n4 w7 := by
  refine St.t hT (by repeat (first | exact Turn.head | apply Turn.tail)) (by simp) (by rfl) rfl fun w5 h5 => St.t h5 (by repeat (first | exact Turn.head | apply Turn.tail)) (by simp) (by rfl) rfl fun w6 h6 => St.t h6 (by repeat (first | exact Turn.head | apply Turn.tail)) (by simp) (by rfl) rfl fun w7 h7 => ?_
  exact ⟨a, h7.ld (b := k2) (by repeat (first | exact List.Mem.head _ | refine List.Mem.tail _ ?_)) rfl, b, h7.ld (b := k3) (by repeat (first | exact List.Mem.head _ | refine List.Mem.tail _ ?_)) rfl, c, h7.ld (b := k4) (by repeat (first | exact List.Mem.head _ | refine List.Mem.tail _ ?_)) rfl, hQ w7 (.inr trivial) h7⟩
theorem wrap2 {n : Nat} (h2 : 2 ≤ n) (h : n ≤ 100000) : IntKind.i64.wrap ((n : Int) - 2) = ((n - 2 : Nat) : Int) ∧ IntKind.i64.wrap (((n - 2 : Nat) : Int) + 1) = ((n - 2 + 1 : Nat) : Int) := by
  constructor
  · rw [wrap64 _ (by omega) (by omega)]; omega
  · rw [wrap64 _ (by omega) (by omega)]; omega
theorem judge_spec {L : List Txt} (hS : Short L) (hL : L.length ≤ 1000000) {p0 : Option Addr} {c0 : Nat} (hcl : L.length ≤ c0) {w : World} (hp : strsL w p0 L) :
    Calls Tryz.prog 36 #[.slice p0 L.length c0] w fun e w' => Ext w w' ∧ ((OkM L [] ∧ e = .returned (.tuple #[.int .i64 (judV L).1, .int .i64 (judV L).2, .int .i64 0])) ∨ (¬ OkM L [] ∧ e = .returned (.tuple #[.int .i64 0, .int .i64 0, .int .i64 1]))) := by
  refine (scrub_Judge_calls (R := fun v w' => Ext w w' ∧ ((OkM L [] ∧ v = .tuple #[.int .i64 (judV L).1, .int .i64 (judV L).2, .int .i64 0]) ∨ (¬ OkM L [] ∧ v = .tuple #[.int .i64 0, .int .i64 0, .int .i64 1]))) ?_).mono fun e w' ⟨v, he, hx, h⟩ => by
    refine ⟨hx, ?_⟩
    rcases h with ⟨h1, h2⟩ | ⟨h1, h2⟩
    · exact .inl ⟨h1, by rw [he, h2]⟩
    · exact .inr ⟨h1, by rw [he, h2]⟩
  unfold scrub_Judge
  refine Alloc.t (T.nil w) fun k2 w1 h1 => Alloc.t h1 fun k3 w2 h2 => Alloc.t h2 fun k4 w3 h3 => ?_
  have hm := fmay_spec (L := L) (lost := []) (c := c0) (d := 0) (by simp) hL hS (hp.ext h3.chg.ext) (q := none) ⟨fun h => absurd rfl h, fun a ha => by cases ha⟩
  refine hm.mono fun e w4 ⟨n, he, hx4, hok, hno⟩ => ⟨n, he, bne_t fun hn => ?_, bne_f fun hn => ?_⟩
  · have hk : ¬ OkM L [] := fun hk => hn (by rw [hok hk]; rfl)
    have h4 := h3.quiet hx4
    refine St.t h4 (by repeat (first | exact Turn.head | apply Turn.tail)) (by simp) (by rfl) rfl fun w5 h5 => St.t h5 (by repeat (first | exact Turn.head | apply Turn.tail)) (by simp) (by rfl) rfl fun w6 h6 => St.t h6 (by repeat (first | exact Turn.head | apply Turn.tail)) (by simp) (by rfl) rfl fun w7 h7 => ?_
    exact ⟨0, h7.ld (b := k2) (by repeat (first | exact List.Mem.head _ | refine List.Mem.tail _ ?_)) rfl, 0, h7.ld (b := k3) (by repeat (first | exact List.Mem.head _ | refine List.Mem.tail _ ?_)) rfl, 1, h7.ld (b := k4) (by repeat (first | exact List.Mem.head _ | refine List.Mem.tail _ ?_)) rfl, h7.chg.ext, .inr ⟨hk, rfl⟩⟩
  have hk : OkM L [] := Classical.byContradiction fun h => by have := hno h; omega
  have n4 := hk.n4
  have n10 := hk.n10
  have h4 := h3.quiet hx4
  refine (sum_spec hS (by omega) (by omega) hcl (hp.ext h4.chg.ext)).mono fun e w8 ⟨he, hx8⟩ => ⟨_, _, he, ?_⟩
  have h8 := h4.quiet hx8
  have hpl := synP_len hS
  have hql := synQ_len hS
  obtain ⟨ew2, ew1⟩ := wrap2 (n := L.length) (by omega) (by omega)
  simp only [ew2, ew1]
  have hjv : judV L = judPQ (synP L) (synQ L) (L.length - 2) := rfl
  generalize synP L = P at hpl hjv
  generalize synQ L = Q at hql hjv
  unfold judPQ at hjv
  refine Alloc.t h8 fun k6 w9 h9 => St.t h9 (by repeat (first | exact Turn.head | apply Turn.tail)) (by simp) (by rfl) rfl fun w10 h10 => Join.intro fun J hJ => ?_
  refine ⟨fun w' => T [] w w' [blk k6 #[.string (strB Q)] 9, blk k4 #[.int .i64 0] 38, blk k3 #[.int .i64 0] 3, blk k2 #[.int .i64 0] 3], h10.drew, ?_⟩
  refine (zero_spec P (by omega) _).mono fun e w22 ⟨he, hx22⟩ => ⟨_, he, h10.drew.quiet hx22, strB Q, fun w' h' => h'.ld (b := k6) (by repeat (first | exact List.Mem.head _ | refine List.Mem.tail _ ?_)) rfl, ?_⟩
  refine (zero_spec Q (by omega) _).mono fun e w23 ⟨he, hx23⟩ => ?_
  have h23 := h10.drew.quiet (hx22.trans hx23)
  refine ⟨_, he, h23, ?_⟩
  have fin : ∀ (a b : Int) (w' : World), judV L = (a, b) → T [] w w' [blk k6 #[.string (strB Q)] 9, blk k4 #[.int .i64 0] 38, blk k3 #[.int .i64 b] 3, blk k2 #[.int .i64 a] 3] → Ext w w' ∧ ((OkM L [] ∧ (Value.tuple #[.int .i64 a, .int .i64 b, .int .i64 0]) = .tuple #[.int .i64 (judV L).1, .int .i64 (judV L).2, .int .i64 0]) ∨ (¬ OkM L [] ∧ (Value.tuple #[.int .i64 a, .int .i64 b, .int .i64 0]) = .tuple #[.int .i64 0, .int .i64 0, .int .i64 1])) := fun a b w' hj hT => ⟨hT.chg.ext, .inl ⟨hk, by rw [hj]⟩⟩
  have loop : zB P = false → zB Q = false → J [] w23 := by
    intro hzp hzq
    rw [hzp, hzq] at hjv
    refine hJ _ _ ⟨rfl, ?_⟩
    refine (scrub_multiples_calls (R := fun v w' => ∃ a b, v = .func (.func 104) #[] #[.pointer (some ⟨b, 0, none⟩), .pointer (some ⟨a, 0, none⟩)] ∧ T [] w w' (blk b #[.int .i64 ((L.length - 2 : Nat) : Int)] 3 :: blk a #[.string (strB P)] 9 :: [blk k6 #[.string (strB Q)] 9, blk k4 #[.int .i64 0] 38, blk k3 #[.int .i64 0] 3, blk k2 #[.int .i64 0] 3])) ?_).mono ?_
    · unfold scrub_multiples
      exact Alloc.t h23 fun a w1 h1 => Alloc.t h1 fun b w2 h2 => ⟨a, b, rfl, h2⟩
    rintro e w12 ⟨v, he, a, b, rfl, h12⟩
    refine ⟨_, he, ?_⟩
    cases hf : firstK P Q (L.length - 2) with
    | none =>
      rw [hf] at hjv
      have hne := firstK_none hf
      refine RangeA.t (by kernel_rfl) h12 (N := L.length - 2) (arg := fun k => [.int .i64 (k : Int), .string (strB (mulX P k))])
        (Inv := fun k Γk => Γk = blk b #[.int .i64 ((L.length - 2 : Nat) : Int)] 3 :: blk a #[.string (strB (mulX P k))] 9 :: [blk k6 #[.string (strB Q)] 9, blk k4 #[.int .i64 0] 38, blk k3 #[.int .i64 0] 3, blk k2 #[.int .i64 0] 3])
        (Mid := fun k Γk => Γk = blk b #[.int .i64 ((L.length - 2 : Nat) : Int)] 3 :: blk a #[.string (strB (mulX P k))] 9 :: [blk k6 #[.string (strB Q)] 9, blk k4 #[.int .i64 0] 38, blk k3 #[.int .i64 0] 3, blk k2 #[.int .i64 0] 3]) ?_ ?_ ?_
      · intro yv x y hyes W hW
        refine (multiples_all (n := L.length - 2) (by omega) (by omega) (fun k W hk h => CallF.mono (hyes k W _ hk rfl h) fun e w' ⟨he, Γ', hm, hT⟩ => ⟨he, by rw [← hm]; exact hT⟩) W hW).mono fun e w' ⟨hv, h⟩ => ⟨hv, _, rfl, h⟩
      · rintro obf l d k Γk W Φ hkn rfl hW hΦ
        refine ⟨_, _, rfl, ?_⟩
        refine RoundP.t hW (G := fun Γ' => Γ' = ob d (.deferred (some [])) :: blk b #[.int .i64 ((L.length - 2 : Nat) : Int)] 3 :: blk a #[.string (strB (mulX P k))] 9 :: [blk k6 #[.string (strB Q)] 9, blk k4 #[.int .i64 0] 38, blk k3 #[.int .i64 0] 3, blk k2 #[.int .i64 0] 3]) ?_ ?_
        · rintro Γ' w' rfl h'
          exact hΦ _ w' rfl h'
        · intro K X R w13 h13 hK
          refine ⟨_, h13.ld (b := k6) (by repeat (first | exact List.Mem.head _ | refine List.Mem.tail _ ?_)) rfl, ?_⟩
          rw [strB_toList, strB_toList]
          exact no (by simpa using hne k hkn) (hK _ w13 rfl h13)
      · rintro d Γ' w' rfl h'
        refine St.t h' (by repeat (first | exact Turn.head | apply Turn.tail)) (by simp) (by rfl) rfl fun w5 h5 => St.t h5 (by repeat (first | exact Turn.head | apply Turn.tail)) (by simp) (by rfl) rfl fun w6 h6 => St.t h6 (by repeat (first | exact Turn.head | apply Turn.tail)) (by simp) (by rfl) rfl fun w7 h7 => ?_
        refine ⟨h7.got List.mem_cons_self, ?_⟩
        have h8 := h7.putTop (o' := .deferred none)
        refine ⟨_, h8.ld (b := k2) (by repeat (first | exact List.Mem.head _ | refine List.Mem.tail _ ?_)) rfl, _, h8.ld (b := k3) (by repeat (first | exact List.Mem.head _ | refine List.Mem.tail _ ?_)) rfl, _, h8.ld (b := k4) (by repeat (first | exact List.Mem.head _ | refine List.Mem.tail _ ?_)) rfl, ?_⟩
        exact fin 2 0 _ hjv (T.drop (T.drop (T.drop h8)))
    | some N =>
      rw [hf] at hjv
      obtain ⟨hN, hNe, hNn⟩ := firstK_some hf
      refine RangeR.t (by kernel_rfl) h12 (N := N) (arg := fun k => [.int .i64 (k : Int), .string (strB (mulX P k))])
        (Inv := fun k Γk => Γk = blk b #[.int .i64 ((L.length - 2 : Nat) : Int)] 3 :: blk a #[.string (strB (mulX P k))] 9 :: [blk k6 #[.string (strB Q)] 9, blk k4 #[.int .i64 0] 38, blk k3 #[.int .i64 0] 3, blk k2 #[.int .i64 0] 3])
        (Mid := fun k Γk => Γk = blk b #[.int .i64 ((L.length - 2 : Nat) : Int)] 3 :: blk a #[.string (strB (mulX P k))] 9 :: [blk k6 #[.string (strB Q)] 9, blk k4 #[.int .i64 0] 38, blk k3 #[.int .i64 0] 3, blk k2 #[.int .i64 0] 3])
        (Out := fun Γk => Γk = blk b #[.int .i64 ((L.length - 2 : Nat) : Int)] 3 :: blk a #[.string (strB (mulX P N))] 9 :: [blk k6 #[.string (strB Q)] 9, blk k4 #[.int .i64 0] 38, blk k3 #[.int .i64 (N : Int)] 3, blk k2 #[.int .i64 1] 3]) ?_ ?_ ?_ ?_
      · intro yv x y z hyes hno W hW
        exact (multiples_stop (n := L.length - 2) (by omega) hN (by omega) (fun k W hk h => CallF.mono (hyes k W _ hk rfl h) fun e w' ⟨he, Γ', hm, hT⟩ => ⟨he, by rw [← hm]; exact hT⟩) (fun W h => hno W _ rfl h) W hW)
      · rintro obf l d k Γk W Φ hkn rfl hW hΦ
        refine ⟨_, _, rfl, ?_⟩
        refine RoundP.t hW (G := fun Γ' => Γ' = ob d (.deferred (some [])) :: blk b #[.int .i64 ((L.length - 2 : Nat) : Int)] 3 :: blk a #[.string (strB (mulX P k))] 9 :: [blk k6 #[.string (strB Q)] 9, blk k4 #[.int .i64 0] 38, blk k3 #[.int .i64 0] 3, blk k2 #[.int .i64 0] 3]) ?_ ?_
        · rintro Γ' w' rfl h'
          exact hΦ _ w' rfl h'
        · intro K X R w13 h13 hK
          refine ⟨_, h13.ld (b := k6) (by repeat (first | exact List.Mem.head _ | refine List.Mem.tail _ ?_)) rfl, ?_⟩
          rw [strB_toList, strB_toList]
          exact no (by simpa using hNn k hkn) (hK _ w13 rfl h13)
      · rintro obf l d Γk W Φ rfl hW hΦ
        refine ⟨_, _, rfl, ?_⟩
        refine RoundR.t hW (G := fun Γ' => Γ' = ob d (.deferred (some [])) :: blk b #[.int .i64 ((L.length - 2 : Nat) : Int)] 3 :: blk a #[.string (strB (mulX P N))] 9 :: [blk k6 #[.string (strB Q)] 9, blk k4 #[.int .i64 0] 38, blk k3 #[.int .i64 (N : Int)] 3, blk k2 #[.int .i64 1] 3]) ?_ ?_
        · rintro Γ' w' rfl h'
          exact hΦ _ w' rfl h'
        · intro K X R w13 h13 hR
          refine ⟨_, h13.ld (b := k6) (by repeat (first | exact List.Mem.head _ | refine List.Mem.tail _ ?_)) rfl, ?_⟩
          rw [strB_toList, strB_toList]
          refine yes (by simpa using hNe) ?_
          refine St.t h13 (by repeat (first | exact Turn.head | apply Turn.tail)) (by simp) (by rfl) rfl fun w5 h5 => St.t h5 (by repeat (first | exact Turn.head | apply Turn.tail)) (by simp) (by rfl) rfl fun w6 h6 => St.t h6 (by repeat (first | exact Turn.head | apply Turn.tail)) (by simp) (by rfl) rfl fun w7 h7 => hR _ w7 rfl h7
      · rintro d Γ' w' rfl h'
        refine ⟨h'.got List.mem_cons_self, ?_⟩
        have h8 := h'.putTop (o' := .deferred none)
        refine ⟨_, h8.ld (b := k2) (by repeat (first | exact List.Mem.head _ | refine List.Mem.tail _ ?_)) rfl, _, h8.ld (b := k3) (by repeat (first | exact List.Mem.head _ | refine List.Mem.tail _ ?_)) rfl, _, h8.ld (b := k4) (by repeat (first | exact List.Mem.head _ | refine List.Mem.tail _ ?_)) rfl, ?_⟩
        exact fin 1 N _ hjv (T.drop (T.drop (T.drop h8)))
  cases hzp : zB P with
  | true =>
    cases hzq : zB Q with
    | true =>
      rw [hzp, hzq] at hjv
      exact yes rfl (yes rfl (res3 0 0 0 h23 fun w' _ h' => fin 0 0 w' hjv h'))
    | false =>
      rw [hzp, hzq] at hjv
      exact yes rfl (no rfl (no rfl (yes rfl (res3 1 ((L.length - 2 + 1 : Nat) : Int) 0 h23 fun w' _ h' => fin _ _ w' hjv h'))))
  | false =>
    cases hzq : zB Q with
    | true =>
      rw [hzp, hzq] at hjv
      exact no rfl (yes rfl (res3 1 ((L.length - 2 : Nat) : Int) 0 h23 fun w' _ h' => fin _ _ w' hjv h'))
    | false => exact no rfl (no rfl (no rfl (loop hzp hzq)))
end Go.Proofs.YtedbbdeeofdepaaGreatDoor
end
section
/-! scrub: Repair, Parity. -/
namespace Go.Proofs.YtedbbdeeofdepaaGreatDoor
open Go.Sh Go.RowKit
set_option linter.unusedVariables false
set_option linter.unusedSimpArgs false
set_option maxRecDepth 20000
set_option maxHeartbeats 2000000
theorem OkM.all {L : List Txt} (h : OkM L []) : ∃ m, m ≤ 4096 ∧ AllLen L m := by
  obtain ⟨m, h4, hm⟩ := h.lens
  exact ⟨m, h4, fun j hj => hm j hj (by simp)⟩
theorem OkM.lose {L : List Txt} (h : OkM L []) {i : Nat} (hi : i < L.length) : OkM L [(i : Int)] := by
  obtain ⟨m, h4, hm⟩ := h.lens
  exact ⟨h.n4, h.n10, fun x hx => by simp at hx; omega, by simp, m, h4, fun j hj _ => hm j hj (by simp)⟩
/-- which verdict, and which column -/
theorem judPQ_cases (P Q : Txt) (n : Nat) : judPQ P Q n = (0, 0) ∨ (∃ i : Nat, i ≤ n + 1 ∧ judPQ P Q n = (1, (i : Int))) ∨ judPQ P Q n = (2, 0) := by
  unfold judPQ
  cases hP : zB P with
  | true =>
    cases hQ : zB Q with
    | true => exact .inl rfl
    | false => exact .inr (.inl ⟨n + 1, by omega, rfl⟩)
  | false =>
    cases hQ : zB Q with
    | true => exact .inr (.inl ⟨n, by omega, rfl⟩)
    | false =>
      cases hf : firstK P Q n with
      | none => exact .inr (.inr rfl)
      | some k => exact .inr (.inl ⟨k, by have := (firstK_some hf).1; omega, rfl⟩)
open Classical in
noncomputable def repF (L : List Txt) : List Txt × Int × Int :=
  if OkM L [] then (if (judV L).1 = 0 then (L, -1, 0) else if (judV L).1 = 2 then ([], 0, 5) else (fillF L [(judV L).2], (judV L).2, 0)) else ([], 0, 1)
open Classical in
noncomputable def parG (L : List Txt) : List Txt × Int := if OkM L [] then (makeF (L.take (L.length - 2)), 0) else ([], 1)
theorem strs_nil (w : World) : strsL w none [] := ⟨fun h => absurd rfl h, fun a ha => by cases ha⟩
theorem ints_nil (w : World) : intsL w none [] := ⟨fun h => absurd rfl h, fun a ha => by cases ha⟩
theorem repair_spec {L : List Txt} (hS : Short L) (hL : L.length ≤ 1000000) {p0 : Option Addr} {c0 : Nat} (hcl : L.length ≤ c0) {w : World} (hp : strsL w p0 L) :
    Calls Tryz.prog 39 #[.slice p0 L.length c0] w fun e w' => ∃ p c, e = .returned (.tuple #[.slice p (repF L).1.length c, .int .i64 (repF L).2.1, .int .i64 (repF L).2.2]) ∧ strsL w' p (repF L).1 ∧ (repF L).1.length ≤ c ∧ Ext w w' := by
  refine (scrub_Repair_calls (R := fun v w' => ∃ p c, v = .tuple #[.slice p (repF L).1.length c, .int .i64 (repF L).2.1, .int .i64 (repF L).2.2] ∧ strsL w' p (repF L).1 ∧ (repF L).1.length ≤ c ∧ Ext w w') ?_).mono fun e w' ⟨v, he, p, c, hv, h⟩ => ⟨p, c, by rw [he, hv], h⟩
  unfold scrub_Repair
  refine (judge_spec hS hL hcl hp).mono fun e w1 ⟨hx1, h⟩ => ?_
  rcases h with ⟨hk, he⟩ | ⟨hk, he⟩
  rotate_left
  · refine ⟨_, _, _, he, yes rfl ⟨none, 0, ?_, ?_, ?_, hx1⟩⟩
    · unfold repF; rw [if_neg hk]; rfl
    · unfold repF; rw [if_neg hk]; exact strs_nil w1
    · unfold repF; rw [if_neg hk]; simp
  refine ⟨_, _, _, he, no rfl ?_⟩
  have n10 := hk.n10
  rcases judPQ_cases (synP L) (synQ L) (L.length - 2) with h | ⟨i, hi, h⟩ | h
  · have hj : judV L = (0, 0) := h
    have hr : repF L = (L, -1, 0) := by unfold repF; rw [if_pos hk, hj]; rfl
    rw [hj, hr]
    refine yes rfl ?_
    refine (clone_spec (by omega) (T.nil w1) (hp.ext hx1)).mono fun e w2 ⟨g, cap, he, h2⟩ => ⟨_, _, _, he, ptr g, cap, rfl, ?_, ?_, hx1.trans h2.chg.ext⟩
    · exact (T.strs h2 List.mem_cons_self).1
    · exact (T.strs h2 List.mem_cons_self).2.2
  · have hj : judV L = (1, (i : Int)) := h
    have hr : repF L = (fillF L [(i : Int)], (i : Int), 0) := by unfold repF; rw [if_pos hk, hj]; rfl
    have hil : i < L.length := by have := hk.n4; omega
    rw [hj, hr]
    refine no rfl (no rfl ?_)
    refine Alloc.t (T.nil w1) fun k30 w3 h3 => ?_
    have h3 : T [] w1 w3 [rowP 3 1 (some k30) 1 1 (intsI [(i : Int)])] := blk_row h3 rfl rfl (by decide)
    refine (fill_spec (L := L) (lost := [(i : Int)]) (c := c0) (d := 1) (by simp) (by omega) hS (hp.ext (hx1.trans h3.chg.ext)) (T.ints h3 List.mem_cons_self).1).mono fun e w4 hr4 => ?_
    rcases hr4 with ⟨_, _, b, cap, he, h4⟩ | ⟨n, _, _, _, h60, _⟩
    · have hl := T.rowS h4 List.mem_cons_self
      refine ⟨_, _, _, _, he, some ⟨b, 0, none⟩, cap, ?_, hl.1, by have := hl.2.1; have := hl.2.2; show (fillF L [(i : Int)]).length ≤ cap; omega, (hx1.trans h3.chg.ext).trans h4.chg.ext⟩
      show _ = Value.tuple #[.slice _ (fillF L [(i : Int)]).length cap, _, _]
      rw [hl.2.1]
    · exact absurd (h60 (hk.lose hil)).1 (by simp)
  · have hj : judV L = (2, 0) := h
    have hr : repF L = ([], 0, 5) := by unfold repF; rw [if_pos hk, hj]; rfl
    rw [hj, hr]
    exact no rfl (yes rfl ⟨none, 0, rfl, strs_nil w1, by simp, hx1⟩)
theorem take_ok {L : List Txt} (hk : OkM L []) : OkM (makeF (L.take (L.length - 2))) [] := by
  obtain ⟨m, h4, hm⟩ := hk.all
  have n4 := hk.n4
  have n10 := hk.n10
  refine makeF_ok (m := m) (fun j hj => ?_) h4 (by rw [List.length_take]; omega) (by rw [List.length_take]; omega)
  rw [List.length_take] at hj
  rw [take_get _ _ _ (by omega)]
  exact hm j (by omega)
theorem scparity_spec {L : List Txt} (hS : Short L) (hL : L.length ≤ 1000000) {p0 : Option Addr} {c0 : Nat} (hcl : L.length ≤ c0) {w : World} (hp : strsL w p0 L) :
    Calls Tryz.prog 44 #[.slice p0 L.length c0] w fun e w' => ∃ p c, e = .returned (.tuple #[.slice p (parG L).1.length c, .int .i64 (parG L).2]) ∧ strsL w' p (parG L).1 ∧ (parG L).1.length ≤ c ∧ Ext w w' := by
  refine (scrub_Parity_calls (R := fun v w' => ∃ p c, v = .tuple #[.slice p (parG L).1.length c, .int .i64 (parG L).2] ∧ strsL w' p (parG L).1 ∧ (parG L).1.length ≤ c ∧ Ext w w') ?_).mono fun e w' ⟨v, he, p, c, hv, h⟩ => ⟨p, c, by rw [he, hv], h⟩
  unfold scrub_Parity
  refine Alloc.t (T.nil w) fun k1 w1 h1 => ⟨_, _, _, h1.ld (b := k1) (by repeat (first | exact List.Mem.head _ | refine List.Mem.tail _ ?_)) rfl, ?_⟩
  have hm := fmay_spec (L := L) (lost := []) (c := c0) (d := 0) (by simp) hL hS (hp.ext h1.chg.ext) (ints_nil w1)
  refine hm.mono fun e w2 ⟨n, he, hx2, hok, hno⟩ => ⟨n, he, bne_t fun hn => ?_, bne_f fun hn => ?_⟩
  · have hk : ¬ OkM L [] := fun hk => hn (by rw [hok hk]; rfl)
    refine ⟨none, 0, ?_, ?_, ?_, h1.chg.ext.trans hx2⟩
    · unfold parG; rw [if_neg hk]; rfl
    · unfold parG; rw [if_neg hk]; exact strs_nil w2
    · unfold parG; rw [if_neg hk]; simp
  have hk : OkM L [] := Classical.byContradiction fun h => by have := hno h; omega
  have hr : parG L = (makeF (L.take (L.length - 2)), 0) := by unfold parG; rw [if_pos hk]
  have n4 := hk.n4
  have n10 := hk.n10
  rw [hr]
  have h2 := h1.quiet hx2
  refine (scrub_Parity_1_calls (R := fun v w' => v = .slice p0 (L.length - 2) c0 ∧ T [] w w' [blk k1 #[.slice p0 L.length c0] 22]) ?_).mono ?_
  · unfold scrub_Parity_1
    refine ⟨_, _, _, h2.ld (b := k1) (by repeat (first | exact List.Mem.head _ | refine List.Mem.tail _ ?_)) rfl, _, _, _, h2.ld (b := k1) (by repeat (first | exact List.Mem.head _ | refine List.Mem.tail _ ?_)) rfl, _, _, _, w2, strs_to (by rw [(wrap2 (n := L.length) (by omega) (by omega)).1]; omega) (by rw [(wrap2 (n := L.length) (by omega) (by omega)).1]; omega) w2, ?_, h2⟩
    rw [(wrap2 (n := L.length) (by omega) (by omega)).1, Int.toNat_natCast]
  rintro e w3 ⟨v, he, rfl, h3⟩
  refine ⟨_, _, _, he, ?_⟩
  have htl : (L.take (L.length - 2)).length = L.length - 2 := by rw [List.length_take]; omega
  have f3 := make_spec (L := L.take (L.length - 2)) (c := c0) (by omega) (hS.take _) (by omega) ((hp.ext h3.chg.ext).take _)
  rw [htl] at f3
  refine f3.mono fun e w4 hr4 => ?_
  rcases hr4 with ⟨_, b, cap, he, h4⟩ | ⟨hno, _⟩
  · have hl := T.rowS h4 List.mem_cons_self
    refine ⟨_, _, _, _, he, some ⟨b, 0, none⟩, cap, ?_, hl.1, by have := hl.2.1; have := hl.2.2; show (makeF (L.take (L.length - 2))).length ≤ cap; omega, h3.chg.ext.trans h4.chg.ext⟩
    show _ = Value.tuple #[.slice _ (makeF (L.take (L.length - 2))).length cap, _]
    rw [hl.2.1]
  · exact absurd (take_ok hk) hno
end Go.Proofs.YtedbbdeeofdepaaGreatDoor
end
section
/-! scrub, in plain words: what is judged, and repaired, of rows that were good. -/
namespace Go.Proofs.YtedbbdeeofdepaaGreatDoor
open Go.Sh Go.RowKit
set_option linter.unusedVariables false
set_option linter.unusedSimpArgs false
set_option maxRecDepth 20000
set_option maxHeartbeats 2000000
theorem zB_iff (l : Txt) : zB l = true ↔ ∀ j, j < l.length → l.getD j 0 = 0 := by
  unfold zB
  rw [List.all_eq_true]
  constructor
  · intro hA j hj
    have := hA l[j] (List.getElem_mem hj)
    simpa [List.getD, hj] using this
  · intro hA x hx
    obtain ⟨j, hj, rfl⟩ := List.getElem_of_mem hx
    have := hA j hj
    simpa [List.getD, hj] using this
theorem synP_zero (L : List Txt) (j : Nat) : (synP L).getD j 0 = 0 ↔ PRel (col L j) (L.length - 2) := by
  rw [synP_col, UInt8.xor_eq_zero_iff]
  exact ⟨fun h => h.symm, fun h => h.symm⟩
theorem synQ_zero (L : List Txt) (h2 : 2 ≤ L.length) (j : Nat) : (synQ L).getD j 0 = 0 ↔ QRel (col L j) (L.length - 2) := by
  rw [synQ_col, UInt8.xor_eq_zero_iff, ← show L.length - 2 + 1 = L.length - 1 by omega]
  exact ⟨fun h => h.symm, fun h => h.symm⟩
theorem zP_iff {L : List Txt} {m : Nat} (h : AllLen L m) (h3 : 3 ≤ L.length) : zB (synP L) = true ↔ ∀ j, j < m → PRel (col L j) (L.length - 2) := by
  rw [zB_iff, synP_all h h3]
  exact ⟨fun hh j hj => (synP_zero L j).1 (hh j hj), fun hh j hj => (synP_zero L j).2 (hh j hj)⟩
theorem zQ_iff {L : List Txt} {m : Nat} (h : AllLen L m) (h3 : 3 ≤ L.length) : zB (synQ L) = true ↔ ∀ j, j < m → QRel (col L j) (L.length - 2) := by
  rw [zB_iff, synQ_all h h3]
  exact ⟨fun hh j hj => (synQ_zero L (by omega) j).1 (hh j hj), fun hh j hj => (synQ_zero L (by omega) j).2 (hh j hj)⟩
theorem judV_zero {L : List Txt} : (judV L).1 = 0 ↔ zB (synP L) = true ∧ zB (synQ L) = true := by
  unfold judV judPQ
  cases zB (synP L) with
  | true =>
    cases zB (synQ L) with
    | true => simp
    | false => simp
  | false =>
    cases zB (synQ L) with
    | true => simp
    | false =>
      cases firstK (synP L) (synQ L) (L.length - 2) with
      | none => simp
      | some k => simp
theorem judV_good {L : List Txt} {m : Nat} (h : GoodL L m) : judV L = (0, 0) := by
  have h1 := (zP_iff h.all (by have := h.n4; omega)).2 fun j hj => (h.rel j hj).1
  have h2 := (zQ_iff h.all (by have := h.n4; omega)).2 fun j hj => (h.rel j hj).2
  unfold judV judPQ
  rw [h1, h2]; rfl
theorem GoodL.of_zero {L : List Txt} {m : Nat} (n4 : 4 ≤ L.length) (n10 : L.length ≤ 10) (h : AllLen L m) (hz : (judV L).1 = 0) : GoodL L m := by
  obtain ⟨h1, h2⟩ := judV_zero.1 hz
  exact ⟨n4, n10, h, fun j hj => ⟨(zP_iff h (by omega)).1 h1 j hj, (zQ_iff h (by omega)).1 h2 j hj⟩⟩
theorem GoodL.rep {L : List Txt} {m : Nat} (h : GoodL L m) (hm : m ≤ 4096) : repF L = (L, -1, 0) := by
  unfold repF
  rw [if_pos (h.ok hm), judV_good h]; rfl
/-- a row of which one column lies is repaired to a good one -/
theorem rep_one {L : List Txt} {m i : Nat} (n4 : 4 ≤ L.length) (n10 : L.length ≤ 10) (h : AllLen L m) (hm : m ≤ 4096) (hj : judV L = (1, (i : Int))) :
    repF L = (fillF L [(i : Int)], (i : Int), 0) ∧ GoodL (fillF L [(i : Int)]) m ∧ (fillF L [(i : Int)]).length = L.length := by
  have hk := ok_all n4 n10 h hm
  have hi : i ≤ L.length - 2 + 1 := by
    rcases judPQ_cases (synP L) (synQ L) (L.length - 2) with h' | ⟨i', hi', h'⟩ | h'
    · have : judV L = (0, 0) := h'
      rw [hj] at this; cases this
    · have : judV L = (1, (i' : Int)) := h'
      rw [hj] at this
      have := (Prod.mk.inj this).2
      omega
    · have : judV L = (2, 0) := h'
      rw [hj] at this; cases this
  have hF := fill_col (hk.lose (i := i) (by omega)) (by simp) (m := m) fun j hj _ => h j hj
  refine ⟨by unfold repF; rw [if_pos hk, hj]; rfl, ?_, hF.len⟩
  have hlen := hF.len
  generalize fillF L [(i : Int)] = G at hF hlen
  refine ⟨by omega, by omega, hF.all, fun j hjm => ?_⟩
  rw [hlen]
  have hfil := (hF.fil j).one i rfl
  have same : ∀ c, c ≠ i → col G j c = col L j c := fun c hc => by
    unfold col
    rw [hF.out c (by simp; omega)]
  unfold judV judPQ at hj
  cases hP : zB (synP L) with
  | true =>
    have hPr := (zP_iff h (by omega)).1 hP j hjm
    cases hQ : zB (synQ L) with
    | true => rw [hP, hQ] at hj; simp at hj
    | false =>
      rw [hP, hQ] at hj
      have hin : i = L.length - 2 + 1 := by simp at hj; omega
      refine ⟨?_, hfil.2 hin⟩
      unfold PRel at hPr ⊢
      rw [same _ (by omega), hPr]
      exact sx_congr fun c hc => (same c (by omega)).symm
  | false =>
    cases hQ : zB (synQ L) with
    | true =>
      rw [hP, hQ] at hj
      have hQr := (zQ_iff h (by omega)).1 hQ j hjm
      have hin : i = L.length - 2 := by simp at hj; omega
      refine ⟨hfil.1 (by omega), ?_⟩
      unfold QRel at hQr ⊢
      rw [same _ (by omega), hQr]
      exact sx_congr fun c hc => congrArg (xp c) (same c (by omega)).symm
    | false =>
      rw [hP, hQ] at hj
      cases hf : firstK (synP L) (synQ L) (L.length - 2) with
      | none => rw [hf] at hj; simp at hj
      | some k =>
        rw [hf] at hj
        obtain rfl : k = i := by simp at hj; omega
        obtain ⟨hkn, hkm, _⟩ := firstK_some hf
        have hPr := hfil.1 (by omega)
        refine ⟨hPr, ?_⟩
        have hd : ∀ n, k < n → sx (col G j) n = sx (col L j) n ^^^ (col G j k ^^^ col L j k) ∧ sx (wq (col G j)) n = sx (wq (col L j)) n ^^^ xp k (col G j k ^^^ col L j k) := fun n hn => by
          constructor
          · have := sx_xor (col G j) (col L j) n
            rw [sx_one (f := fun c => col G j c ^^^ col L j c) hn fun c _ hc => by rw [same c hc, UInt8.xor_self]] at this
            rw [this, UInt8.xor_comm, UInt8.xor_assoc, UInt8.xor_self, UInt8.xor_zero]
          · have := sx_xor (wq (col G j)) (wq (col L j)) n
            rw [sx_one (f := fun c => wq (col G j) c ^^^ wq (col L j) c) hn fun c _ hc => by unfold wq; rw [same c hc, UInt8.xor_self]] at this
            unfold wq at this ⊢
            rw [xp_xor, this, UInt8.xor_comm, UInt8.xor_assoc, UInt8.xor_self, UInt8.xor_zero]
        obtain ⟨d1, d2⟩ := hd (L.length - 2) hkn
        have e1 : (synP L).getD j 0 = col G j k ^^^ col L j k := by
          rw [synP_col]
          unfold PRel at hPr
          rw [same _ (by omega), d1] at hPr
          rw [hPr, ← UInt8.xor_assoc, UInt8.xor_self, UInt8.zero_xor]
        have e2 : xp k ((synP L).getD j 0) = (synQ L).getD j 0 := by rw [← mulX_get, hkm]
        unfold QRel
        rw [same _ (by omega), d2, ← e1, e2, synQ_col, ← UInt8.xor_assoc, UInt8.xor_self, UInt8.zero_xor, show L.length - 2 + 1 = L.length - 1 by omega]
/-- one column of a good row lies: it is found -/
theorem lie_found {G : List Txt} {m i : Nat} (h : GoodL G m) (hm : m ≤ 4096) (hi : i < G.length) {x : Txt} (hx : x.length = m) (hne : x ≠ G.getD i []) :
    judV (G.set i x) = (1, (i : Int)) ∧ fillF (G.set i x) [(i : Int)] = G := by
  have n4 := h.n4
  have n10 := h.n10
  have hl : (G.set i x).length = G.length := List.length_set
  have hB : AllLen (G.set i x) m := h.all.set hx i
  have hk := (ok_all (by omega) (by omega) hB hm).lose (i := i) (by omega)
  refine ⟨?_, fill_back hk (by simp) hl h.all (fun c _ hc => get_out (by simp at hc; omega) x) fun j => h.filled _ j⟩
  obtain ⟨t, ht, hd⟩ : ∃ t, t < m ∧ x.getD t 0 ^^^ col G t i ≠ 0 := Classical.byContradiction fun hno => hne (ext_getD (by rw [hx, h.all i hi]) fun j hj => Classical.byContradiction fun e => hno ⟨j, by omega, fun e0 => e (UInt8.xor_eq_zero_iff.1 e0)⟩)
  have hP : ∀ j, j < m → (synP (G.set i x)).getD j 0 = if i ≤ G.length - 2 then x.getD j 0 ^^^ col G j i else 0 := fun j hj => by
    have hr := (h.rel j hj).1
    unfold PRel at hr
    rw [synP_col, hl]
    rcases Nat.lt_trichotomy i (G.length - 2) with hlt | he | hgt
    · rw [if_pos (by omega), sx_set hlt (by omega), col_out (by omega) (by omega), hr, UInt8.xor_comm, ← UInt8.xor_assoc, UInt8.xor_self, UInt8.zero_xor]
    · rw [if_pos (by omega), ← he, col_at hi, sx_congr (g := col G j) fun c hc => col_out hi (by omega) x j, he, ← hr, UInt8.xor_comm]
    · rw [if_neg (by omega), col_out (by omega) (by omega), sx_congr (g := col G j) fun c hc => col_out hi (by omega) x j, ← hr, UInt8.xor_self]
  have hQ : ∀ j, j < m → (synQ (G.set i x)).getD j 0 = if i < G.length - 2 then xp i (x.getD j 0 ^^^ col G j i) else if i = G.length - 2 then 0 else x.getD j 0 ^^^ col G j i := fun j hj => by
    have hr := (h.rel j hj).2
    unfold QRel at hr
    rw [show G.length - 2 + 1 = G.length - 1 by omega] at hr
    rw [synQ_col, hl]
    have wsame : i ≥ G.length - 2 → sx (wq (col (G.set i x) j)) (G.length - 2) = sx (wq (col G j)) (G.length - 2) := fun hge => sx_congr fun c hc => congrArg (xp c) (col_out hi (by omega) x j)
    rcases Nat.lt_trichotomy i (G.length - 2) with hlt | he | hgt
    · rw [if_pos hlt, sq_set hlt (by omega), col_out (by omega) (by omega), hr, UInt8.xor_comm, ← UInt8.xor_assoc, UInt8.xor_self, UInt8.zero_xor]
    · rw [if_neg (by omega), if_pos he, wsame (by omega), col_out (by omega) (by omega), hr, UInt8.xor_self]
    · have hie : i = G.length - 1 := by omega
      rw [if_neg (by omega), if_neg (by omega), wsame (by omega), ← hr, ← hie, col_at hi, UInt8.xor_comm]
  have lP := synP_all hB (by omega)
  have lQ := synQ_all hB (by omega)
  unfold judV judPQ
  rw [hl]
  rcases Nat.lt_trichotomy i (G.length - 2) with hlt | he | hgt
  · have zP : zB (synP (G.set i x)) = false := Bool.eq_false_iff.2 fun hz => hd (by have := (zB_iff _).1 hz t (by omega); rw [hP t ht, if_pos (by omega)] at this; exact this)
    have zQ : zB (synQ (G.set i x)) = false := Bool.eq_false_iff.2 fun hz => hd (by have := (zB_iff _).1 hz t (by omega); rw [hQ t ht, if_pos hlt] at this; exact xp_eq_zero this)
    have hf : firstK (synP (G.set i x)) (synQ (G.set i x)) (G.length - 2) = some i := by
      refine firstK_is hlt (ext_getD (by rw [mulX_len, lP, lQ]) fun j hj => ?_) fun k hk he => ?_
      · rw [mulX_len, lP] at hj
        rw [mulX_get, hP j hj, hQ j hj, if_pos (by omega), if_pos hlt]
      · have := congrArg (fun l : Txt => l.getD t 0) he
        simp only [mulX_get, hP t ht, hQ t ht] at this
        rw [if_pos (by omega), if_pos hlt] at this
        exact hd (xp_two (by omega) (by omega) (by omega) this)
    rw [zP, zQ, hf]; rfl
  · have zP : zB (synP (G.set i x)) = false := Bool.eq_false_iff.2 fun hz => hd (by have := (zB_iff _).1 hz t (by omega); rw [hP t ht, if_pos (by omega)] at this; exact this)
    have zQ : zB (synQ (G.set i x)) = true := (zB_iff _).2 fun j hj => by rw [hQ j (by omega), if_neg (by omega), if_pos he]
    rw [zP, zQ, he]; rfl
  · have zP : zB (synP (G.set i x)) = true := (zB_iff _).2 fun j hj => by rw [hP j (by omega), if_neg (by omega)]
    have zQ : zB (synQ (G.set i x)) = false := Bool.eq_false_iff.2 fun hz => hd (by have := (zB_iff _).1 hz t (by omega); rw [hQ t ht, if_neg (by omega), if_neg (by omega)] at this; exact this)
    rw [zP, zQ, show i = G.length - 2 + 1 by omega]; rfl
theorem lie_rep {G : List Txt} {m i : Nat} (h : GoodL G m) (hm : m ≤ 4096) (hi : i < G.length) {x : Txt} (hx : x.length = m) (hne : x ≠ G.getD i []) : repF (G.set i x) = (G, (i : Int), 0) := by
  obtain ⟨h1, h2⟩ := lie_found h hm hi hx hne
  have := (rep_one (by rw [List.length_set]; exact h.n4) (by rw [List.length_set]; exact h.n10) (h.all.set hx i) hm h1).1
  rw [this, h2]
/-- what is made is good -/
theorem make_good {R : List Txt} {m : Nat} (h : AllLen R m) (h2 : 2 ≤ R.length) (h8 : R.length ≤ 8) : GoodL (makeF R) m := by
  have hp : ∀ j, PRel (col (makeF R) j) R.length ∧ QRel (col (makeF R) j) R.length := fun j => by
    have hc : ∀ c, c < R.length → col (makeF R) j c = col R j c := fun c hc => by unfold col; rw [makeF_get, if_pos hc]
    have hp : col (makeF R) j R.length = (sumT R).getD j 0 := by unfold col; rw [makeF_get, if_neg (by omega), if_pos rfl]
    have hq : col (makeF R) j (R.length + 1) = (qT R).getD j 0 := by unfold col; rw [makeF_get, if_neg (by omega), if_neg (by omega), if_pos rfl]
    constructor
    · unfold PRel
      rw [hp, sx_congr hc]
      exact sAcc_col R j _
    · unfold QRel
      have : sx (wq (col (makeF R) j)) R.length = sx (wq (col R j)) R.length := sx_congr fun c h => congrArg (xp c) (hc c h)
      rw [hq, this]
      exact qAcc_col R j _
  refine ⟨by rw [makeF_len]; omega, by rw [makeF_len]; omega, makeF_all h (by omega), fun j _ => ?_⟩
  rw [makeF_len, show R.length + 2 - 2 = R.length by omega]
  exact hp j
theorem GoodL.goodF {L : List Txt} {m : Nat} (h : GoodL L m) : goodF L = true := by
  have h1 := (zP_iff h.all (by have := h.n4; omega)).2 fun j hj => (h.rel j hj).1
  have h2 := (zQ_iff h.all (by have := h.n4; omega)).2 fun j hj => (h.rel j hj).2
  unfold zB at h1 h2
  unfold Go.Proofs.YtedbbdeeofdepaaGreatDoor.goodF
  rw [h1, h2]; rfl
theorem goodF_judV (L : List Txt) : decide ((judV L).1 = 0) = goodF L := by
  unfold goodF
  have := judV_zero (L := L)
  unfold zB at this
  cases h1 : (synP L).all (fun x => x == 0) <;> cases h2 : (synQ L).all (fun x => x == 0) <;> simp [h1, h2] at this ⊢ <;> exact this
end Go.Proofs.YtedbbdeeofdepaaGreatDoor
end
