import Derived.Test.YtbecjmfcppginaaGreatM5
import Derived.Test.YtbecjmfcppginaaGreatM12
import Derived.Test.YtbecjmfcppginaaGreatM14
import Derived.Test.YtbecjmfcppginaaGreatM15
section
/-! ring: a ring on a drive, and what is found there. -/
namespace Go.Proofs.YtbecjmfcppginaaGreat
open Go.Sh Go.RowKit
set_option linter.unusedVariables false
set_option linter.unusedSimpArgs false
set_option maxRecDepth 20000
set_option maxHeartbeats 1000000
def ratN (S n : Nat) : Nat := 4 + 41 * (n % S)
theorem ratF_eq (S n : Nat) : ratF S n = (ratN S n : Int) := by unfold ratF ratN; omega
theorem ratN_lt {S n N : Nat} (h1 : 1 ≤ S) (hN : 4 + 41 * S ≤ N) : ratN S n + 41 ≤ N := by
  have := Nat.mod_lt n (show 0 < S by omega)
  unfold ratN; omega
/-- a record stands in its number's slot -/
def SlotIs (f : Nat → ByteArray) (S n : Nat) (row : Int) (l : List RP) : Prop :=
  f (ratN S n) = strB (headR n row l (sumR l)) ∧ ∀ j, j < l.length → f (ratN S n + 1 + j) = strB ((datas l).getD j [])
theorem readsF_slot {a : AD} {N : Nat} {f : Nat → ByteArray} {S n : Nat} {row : Int} {l : List RP} (h : a.Wet N f) (h1 : 1 ≤ S) (hN : 4 + 41 * S ≤ N) (hs : SlotIs f S n row l) (hl : l.length ≤ 40) : readsF a (ratF S n) l.length = datas l := by
  apply List.ext_getElem?; intro j
  unfold readsF
  have := ratN_lt (n := n) h1 hN
  by_cases hj : j < l.length
  · rw [List.getElem?_map, List.getElem?_range hj, List.getElem?_eq_getElem (by rw [datas_len]; exact hj)]
    simp only [Option.map_some]
    rw [ratF_eq, h.read (by omega) (by omega), show ((ratN S n : Int) + 1 + (j : Int)).toNat = ratN S n + 1 + j by omega, hs.2 j hj, List.getD_eq_getElem?_getD, List.getElem?_eq_getElem (by rw [datas_len]; exact hj)]
    rfl
  · rw [List.getElem?_eq_none (by rw [List.length_map, List.length_range]; omega), List.getElem?_eq_none (by rw [datas_len]; omega)]
theorem recF_good {a : AD} {N : Nat} {f : Nat → ByteArray} {S n : Nat} {row : Int} {l : List RP} (h : a.Wet N f) (h1 : 1 ≤ S) (hN : 4 + 41 * S ≤ N) (hn : n < 2 ^ 64) (hs : SlotIs f S n row l) (hP : PlacedR row l) (hL : LoadedR l) : recF a S n = ((n, row, l), true) := by
  have h40 := hP.2.2.2.1
  have hlt := ratN_lt (n := n) h1 hN
  have hr : a.read (ratF S n) = (strB (headR n row l (sumR l)), 0) := by rw [ratF_eq, h.read (by omega) (by omega), Int.toNat_natCast, hs.1]
  have hd := decH_headR (sum := sumR l) hn hP
  have eb : (strB (headR n row l (sumR l))).data.toList = headR n row l (sumR l) := rfl
  unfold recF
  rw [hr]
  simp only [eb, hd]
  have hb : (bare l).length = l.length := bare_len l
  rw [if_neg (by simp), if_neg (by simp), if_neg (fun ⟨i, hi, hx⟩ => hx (by
    rw [hb] at hi
    rw [ratF_eq, h.read (by omega) (by omega)])), hb, readsF_slot h h1 hN hs h40, decR_headR hn hP hL]
  rfl
theorem recF_none {a : AD} {N : Nat} {f : Nat → ByteArray} {S n : Nat} (h : a.Wet N f) (h1 : 1 ≤ S) (hN : 4 + 41 * S ≤ N) (ho : (decH (f (ratN S n)).data.toList).2 = 0 → (decH (f (ratN S n)).data.toList).1.1 ≠ n) : (recF a S n).2 = false := by
  have hlt := ratN_lt (n := n) h1 hN
  unfold recF
  rw [ratF_eq, h.read (by omega) (by omega), Int.toNat_natCast, if_neg (by simp)]
  by_cases h0 : (decH (f (ratN S n)).data.toList).2 = 0
  · rw [if_pos (Or.inr (ho h0))]
  · rw [if_pos (Or.inl h0)]
/-- a ring of S slots, trimmed at t, that has some records -/
structure RI (N S t : Nat) (recs : List (Int × List RP)) (f : Nat → ByteArray) : Prop where
  one : 1 ≤ S
  fit : 4 + 41 * S ≤ N
  small : t + 1000000 < 2 ^ 64
  sle : S ≤ 1000
  mark : f 3 = strB (markB t)
  len : recs.length ≤ S
  ok : ∀ x ∈ recs, PlacedR x.1 x.2 ∧ LoadedR x.2
  slot : ∀ i x, recs[i]? = some x → SlotIs f S (t + 1 + i) x.1 x.2
  old : ∀ s, s < S → (decH (f (4 + 41 * s)).data.toList).2 = 0 → (decH (f (4 + 41 * s)).data.toList).1.1 < t + 1 + recs.length
/-- records with their numbers -/
def numb : Nat → List (Int × List RP) → List RcV
  | _, [] => []
  | n, x :: l => (n, x.1, x.2) :: numb (n + 1) l
theorem numb_len : ∀ (l : List (Int × List RP)) (n : Nat), (numb n l).length = l.length
  | [], n => rfl
  | x :: l, n => by unfold numb; rw [List.length_cons, List.length_cons, numb_len l]
theorem numb_get : ∀ (l : List (Int × List RP)) (n i : Nat), (numb n l)[i]? = (l[i]?).map fun x => (n + i, x.1, x.2)
  | [], n, i => by simp [numb]
  | x :: l, n, 0 => rfl
  | x :: l, n, i + 1 => by
    unfold numb
    rw [List.getElem?_cons_succ, List.getElem?_cons_succ, numb_get l (n + 1) i, show n + 1 + i = n + (i + 1) by omega]
theorem RI.next {N S t : Nat} {recs : List (Int × List RP)} {f : Nat → ByteArray} (h : RI N S t recs f) {a : AD} (ha : a.Wet N f) : ∀ (k i : Nat), i ≤ recs.length → k + i = S → recsF a S k (t + 1 + i) = (numb (t + 1 + i) (recs.drop i))
  | 0, i, hi, hk => by
    have hl := h.len
    have : recs.drop i = [] := List.drop_eq_nil_of_le (by omega)
    rw [this]; rfl
  | k + 1, i, hi, hk => by
    have hsm := h.small
    have hsl := h.sle
    have hl := h.len
    unfold recsF
    by_cases hlt : i < recs.length
    · obtain ⟨hP, hL⟩ := h.ok recs[i] (List.getElem_mem hlt)
      have hg := recF_good ha h.one h.fit (show t + 1 + i < 2 ^ 64 by omega) (h.slot i recs[i] (List.getElem?_eq_getElem hlt)) hP hL
      rw [hg, if_pos rfl, Nat.mod_eq_of_lt (by omega), show t + 1 + i + 1 = t + 1 + (i + 1) by omega, h.next ha k (i + 1) (by omega) (by omega), List.drop_eq_getElem_cons hlt]
      rfl
    · have hn := recF_none (n := t + 1 + i) ha h.one h.fit fun h0 => by
        have := h.old ((t + 1 + i) % S) (Nat.mod_lt _ (by have := h.one; omega)) h0
        show (decH (f (4 + 41 * ((t + 1 + i) % S))).data.toList).1.1 ≠ _
        omega
      rw [hn, if_neg (by decide), List.drop_eq_nil_of_le (by omega)]; rfl
theorem RI.found {N S t : Nat} {recs : List (Int × List RP)} {f : Nat → ByteArray} (h : RI N S t recs f) {a : AD} (ha : a.Wet N f) : recsF a S S (t + 1) = numb (t + 1) recs := h.next ha S 0 (Nat.zero_le _) rfl
theorem RI.opened {N S t : Nat} {recs : List (Int × List RP)} {f : Nat → ByteArray} (h : RI N S t recs f) {a : AD} (ha : a.Wet N f) (hS : slotsN (N : Int) = (S : Int)) : openF a = (t, 0) := by
  have h1 := h.one
  have h2 := h.fit
  have h3 := h.small
  have hr : a.read 3 = (strB (markB t), 0) := by rw [ha.read (by omega) (by omega)]; exact congrArg (fun x => (x, (0 : Int))) h.mark
  have eb : (strB (markB t)).data.toList = markB t := rfl
  unfold openF
  rw [hr, eb]
  have hd := mark_dec (n := t) (by omega)
  have ho : (openB (markB t)).2 = true := by rw [mark_open]
  rw [hd, ha.on.len, hS, if_neg (by simp), if_neg (by rw [ho]; simp; omega), if_neg (by simp)]
/-- two numbers that are near have different slots -/
theorem slots_apart {S x y : Nat} (h1 : 1 ≤ S) (hlt : x < y) (hS : y < x + S) : x % S ≠ y % S := by
  intro e
  have h := Nat.sub_mod_eq_zero_of_mod_eq e.symm
  have : (y - x) % S = y - x := Nat.mod_eq_of_lt (by omega)
  omega
theorem SlotIs.congr {f g : Nat → ByteArray} {S n : Nat} {row : Int} {l : List RP} (h : SlotIs f S n row l) (hl : l.length ≤ 40) (e : ∀ j, ratN S n ≤ j → j ≤ ratN S n + 40 → g j = f j) : SlotIs g S n row l := by
  refine ⟨by rw [e _ (Nat.le_refl _) (by omega)]; exact h.1, fun j hj => by rw [e _ (by omega) (by omega)]; exact h.2 j hj⟩
/-- what Append leaves -/
def appF (f : Nat → ByteArray) (S n : Nat) (row : Int) (l : List RP) : Nat → ByteArray := updF (loadF f (ratN S n) (datas l) l.length) (ratN S n) (strB (headR n row l (sumR l)))
theorem appOps_f (f : Nat → ByteArray) (S n : Nat) (row : Int) (l : List RP) : ∀ m, m = [none, some (4 + 41 * ((n % S : Nat) : Int), strB (headR n row l (sumR l)))] → opsF f (loadOps (4 + 41 * ((n % S : Nat) : Int)) (datas l) l.length ++ m) = appF f S n row l := by
  rintro m rfl
  have e : (4 + 41 * ((n % S : Nat) : Int)) = (ratN S n : Int) := by unfold ratN; omega
  rw [e, opsF_app, loadOps_f]
  show updF (loadF f (ratN S n) (datas l) l.length) ((ratN S n : Int)).toNat _ = _
  rw [Int.toNat_natCast]; rfl
theorem RI.loads {N S t : Nat} {recs : List (Int × List RP)} {f : Nat → ByteArray} (h : RI N S t recs f) (hlt : recs.length < S) {l : List RP} (hl : l.length ≤ 40) : RI N S t recs (loadF f (ratN S (t + 1 + recs.length)) (datas l) l.length) := by
  have keep : ∀ s, s < S → loadF f (ratN S (t + 1 + recs.length)) (datas l) l.length (4 + 41 * s) = f (4 + 41 * s) := fun s hs => by
    unfold loadF; rw [if_neg (by unfold ratN; omega)]
  refine ⟨h.one, h.fit, h.small, h.sle, ?_, h.len, h.ok, fun i x hx => ?_, fun s hs => ?_⟩
  · unfold loadF; rw [if_neg (by unfold ratN; omega)]; exact h.mark
  · have hi : i < recs.length := (List.getElem?_eq_some_iff.1 hx).1
    refine (h.slot i x hx).congr (h.ok x (List.mem_of_getElem? hx)).1.2.2.2.1 fun j h1 h2 => ?_
    have hap := slots_apart (S := S) (x := t + 1 + i) (y := t + 1 + recs.length) h.one (by omega) (by omega)
    unfold loadF; unfold ratN at h1 h2 ⊢; rw [if_neg (by omega)]
  · rw [keep s hs]; exact h.old s hs
theorem RI.append {N S t : Nat} {recs : List (Int × List RP)} {f : Nat → ByteArray} (h : RI N S t recs f) (hlt : recs.length < S) {row : Int} {l : List RP} (hP : PlacedR row l) (hL : LoadedR l) : RI N S t (recs ++ [(row, l)]) (appF f S (t + 1 + recs.length) row l) := by
  have h40 := hP.2.2.2.1
  have hsm := h.small
  have hsl := h.sle
  have hl := h.loads hlt (l := l) h40
  refine ⟨h.one, h.fit, h.small, h.sle, ?_, by rw [List.length_append]; exact hlt, fun x hx => ?_, fun i x hx => ?_, fun s hs => ?_⟩
  · show updF _ _ _ 3 = _
    unfold updF; rw [if_neg (by unfold ratN; omega)]; exact hl.mark
  · rcases List.mem_append.1 hx with hx | hx
    · exact h.ok x hx
    · rw [List.mem_singleton.1 hx]; exact ⟨hP, hL⟩
  · by_cases hi : i < recs.length
    · rw [List.getElem?_append_left hi] at hx
      refine (hl.slot i x hx).congr (h.ok x (List.mem_of_getElem? hx)).1.2.2.2.1 fun j h1 h2 => ?_
      have hap := slots_apart (S := S) (x := t + 1 + i) (y := t + 1 + recs.length) h.one (by omega) (by omega)
      show updF _ _ _ j = _
      unfold updF; unfold ratN at h1 h2 ⊢; rw [if_neg (by omega)]
    · have hie : i = recs.length := by
        have := (List.getElem?_eq_some_iff.1 hx).1
        rw [List.length_append, List.length_singleton] at this; omega
      subst hie
      rw [List.getElem?_append_right (Nat.le_refl _), Nat.sub_self] at hx
      obtain rfl : (row, l) = x := by simpa using hx
      refine ⟨?_, fun j hj => ?_⟩
      · show updF _ _ _ _ = _
        unfold updF; rw [if_pos rfl]
      · show updF _ _ _ _ = _
        have hj : j < l.length := hj
        unfold updF; rw [if_neg (by omega)]
        unfold loadF; rw [if_pos (by omega), show ratN S (t + 1 + recs.length) + 1 + j - ratN S (t + 1 + recs.length) - 1 = j by omega]
  · rw [List.length_append, List.length_singleton]
    show (decH (updF _ _ _ (4 + 41 * s)).data.toList).2 = 0 → (decH (updF _ _ _ (4 + 41 * s)).data.toList).1.1 < _
    unfold updF
    split
    · intro _
      have eb : (strB (headR (t + 1 + recs.length) row l (sumR l))).data.toList = headR (t + 1 + recs.length) row l (sumR l) := rfl
      rw [eb, decH_headR (by omega) hP]
      show t + 1 + recs.length < _
      omega
    · intro h0
      have := hl.old s hs h0
      omega
theorem RI.trim {N S t : Nat} {recs : List (Int × List RP)} {f : Nat → ByteArray} (h : RI N S t recs f) {m : Nat} (hm : m ≤ recs.length) (hsm : t + m + 1000000 < 2 ^ 64) : RI N S (t + m) (recs.drop m) (updF f 3 (strB (markB (t + m)))) := by
  have keep : ∀ j, 4 ≤ j → updF f 3 (strB (markB (t + m))) j = f j := fun j hj => by unfold updF; rw [if_neg (by omega)]
  refine ⟨h.one, h.fit, hsm, h.sle, by unfold updF; rw [if_pos rfl], by rw [List.length_drop]; have := h.len; omega, fun x hx => h.ok x (List.mem_of_mem_drop hx), fun i x hx => ?_, fun s hs => ?_⟩
  · rw [List.getElem?_drop] at hx
    have := h.slot (m + i) x hx
    rw [show t + m + 1 + i = t + 1 + (m + i) by omega]
    exact this.congr (h.ok x (List.mem_of_getElem? hx)).1.2.2.2.1 fun j h1 h2 => keep j (by unfold ratN at h1; omega)
  · rw [keep _ (by omega), List.length_drop]
    intro h0
    have := h.old s hs h0
    omega
/-- a ring that is made anew -/
theorem RI.made {N S : Nat} {f : Nat → ByteArray} (h1 : 1 ≤ S) (hS : S ≤ 1000) (hN : 4 + 41 * S ≤ N) : RI N S 0 [] (updF (slotF f S) 3 (strB (markB 0))) := by
  refine ⟨h1, hN, by decide, hS, by unfold updF; rw [if_pos rfl], Nat.zero_le _, fun x hx => by simp at hx, fun i x hx => by simp at hx, fun s hs h0 => ?_⟩
  exfalso
  have e : updF (slotF f S) 3 (strB (markB 0)) (4 + 41 * s) = zS := by
    unfold updF slotF; rw [if_neg (by omega), if_pos (by omega)]
  rw [e] at h0
  exact zero_head h0
end Go.Proofs.YtbecjmfcppginaaGreat
end
section
/-! law13: what is done with a ring. -/
namespace Go.Proofs.YtbecjmfcppginaaGreat
open Go.Sh Go.RowKit Go.Maps
set_option linter.unusedVariables false
set_option linter.unusedSimpArgs false
set_option maxRecDepth 20000
set_option maxHeartbeats 1000000
/-- a ring stands on a drive -/
def RAt (a : AD) (N S t : Nat) (recs : List (Int × List RP)) : Prop := slotsN (N : Int) = (S : Int) ∧ N ≤ 4096 ∧ ∃ f, a.Hold N f ∧ RI N S t recs f
theorem RAt.few {a : AD} {N S t : Nat} {recs : List (Int × List RP)} (h : RAt a N S t recs) (K : Nat) : a.Few K := by
  obtain ⟨_, _, f, hf, _⟩ := h
  exact hf.few K
theorem RAt.on {a : AD} {N S t : Nat} {recs : List (Int × List RP)} (h : RAt a N S t recs) : a.On N := by
  obtain ⟨_, _, f, hf, _⟩ := h
  exact hf.on
theorem RAt.le {a : AD} {N S t : Nat} {recs : List (Int × List RP)} (h : RAt a N S t recs) : recs.length ≤ S ∧ 1 ≤ S ∧ S ≤ 1000 ∧ t + 1000000 < 2 ^ 64 := by
  obtain ⟨_, _, f, _, hr⟩ := h
  exact ⟨hr.len, hr.one, hr.sle, hr.small⟩
theorem RAt.crash {a : AD} {N S t : Nat} {recs : List (Int × List RP)} (h : RAt a N S t recs) (keep : List UInt8) : RAt (a.crash keep) N S t recs := by
  obtain ⟨h1, h2, f, hf, hr⟩ := h
  exact ⟨h1, h2, f, hf.crash0 keep, hr⟩
theorem slots_fit {N S : Nat} (h : slotsN (N : Int) = (S : Int)) (h1 : 1 ≤ S) : 4 + 41 * S ≤ N := by unfold slotsN at h; omega
theorem format_at {a : AD} {N S : Nat} {f : Nat → ByteArray} (h : a.Wet N f) (hS : slotsN (N : Int) = (S : Int)) (h1 : 1 ≤ S) (hN : N ≤ 4096) : (formatF a).2 = 0 ∧ RAt (formatF a).1 N S 0 [] := by
  have hfit := slots_fit hS h1
  have e : formatF a = runS a ((slotOps S ++ [some (3, strB (markB 0))]) ++ [none]) := by
    unfold formatF
    rw [h.on.len, hS, if_neg (by omega), Int.toNat_natCast, List.append_assoc]; rfl
  have hok : OpsOk N (slotOps S ++ [some (3, strB (markB 0))]) := fun y hy => by
    rcases List.mem_append.1 hy with hy | hy
    · exact slotOps_ok hfit y hy
    · have e := Option.some.inj (List.mem_singleton.1 hy)
      subst e
      exact ⟨by show (0 : Int) ≤ 3; omega, by show (3 : Int) < N; omega, by rw [strB_size]; exact markB_len 0⟩
  obtain ⟨r1, r2⟩ := runS_hold h hok
  rw [e]
  refine ⟨r1, hS, hN, _, r2, ?_⟩
  rw [opsF_app, slotOps_f]
  show RI N S 0 [] (updF (slotF f S) 3 (strB (markB 0)))
  exact RI.made h1 (by omega) hfit
theorem RAt.app {a : AD} {N S t : Nat} {recs : List (Int × List RP)} (h : RAt a N S t recs) (hlt : recs.length < S) {row : Int} {l : List RP} (hP : PlacedR row l) (hL : LoadedR l) :
    (runS a (appOps S (t + 1 + recs.length) row l)).2 = 0 ∧ RAt (runS a (appOps S (t + 1 + recs.length) row l)).1 N S t (recs ++ [(row, l)]) := by
  obtain ⟨h1, h2, f, hf, hr⟩ := h
  have h40 := hP.2.2.2.1
  have hat := ratN_lt (n := t + 1 + recs.length) hr.one hr.fit
  have eat : (4 + 41 * (((t + 1 + recs.length) % S : Nat) : Int)) = (ratN S (t + 1 + recs.length) : Int) := by unfold ratN; omega
  have e : appOps S (t + 1 + recs.length) row l = (loadOps (4 + 41 * (((t + 1 + recs.length) % S : Nat) : Int)) (datas l) l.length ++ [none, some (4 + 41 * (((t + 1 + recs.length) % S : Nat) : Int), strB (headR (t + 1 + recs.length) row l (sumR l)))]) ++ [none] := by
    rw [List.append_assoc]; rfl
  have hok : OpsOk N (loadOps (4 + 41 * (((t + 1 + recs.length) % S : Nat) : Int)) (datas l) l.length ++ [none, some (4 + 41 * (((t + 1 + recs.length) % S : Nat) : Int), strB (headR (t + 1 + recs.length) row l (sumR l)))]) := fun y hy => by
    rw [eat] at hy
    rcases List.mem_append.1 hy with hy | hy
    · exact loadOps_ok ((loaded_datas l).1 hL) (by rw [datas_len]; exact Nat.le_refl _) (by omega) y hy
    · simp only [List.mem_cons, List.not_mem_nil, or_false, reduceCtorEq, false_or, Option.some.injEq] at hy
      subst hy
      exact ⟨by show (0 : Int) ≤ ratN S (t + 1 + recs.length); omega, by show (ratN S (t + 1 + recs.length) : Int) < N; omega, by rw [strB_size]; exact headR_len h40⟩
  obtain ⟨r1, r2⟩ := runS_hold hf.wet hok
  rw [e]
  refine ⟨r1, h1, h2, _, r2, ?_⟩
  rw [appOps_f f S _ row l _ rfl]
  exact hr.append hlt hP hL
theorem RAt.trimmed {a : AD} {N S t m : Nat} {recs : List (Int × List RP)} (h : RAt a N S t recs) (hm : t ≤ m) (hm2 : m ≤ t + recs.length) (hsm : m + 1000000 < 2 ^ 64) :
    ∃ a', trimF a t (t + 1 + recs.length) m = (a', m, 0) ∧ RAt a' N S m (recs.drop (m - t)) := by
  obtain ⟨h1, h2, f, hf, hr⟩ := h
  have hl := hr.len
  have hs := hr.sle
  have hfit := hr.fit
  have hok : OpsOk N [some (3, strB (markB m))] := fun y hy => by
    have e := Option.some.inj (List.mem_singleton.1 hy)
    subst e
    exact ⟨by show (0 : Int) ≤ 3; omega, by show (3 : Int) < N; omega, by rw [strB_size]; exact markB_len m⟩
  obtain ⟨r1, r2⟩ := runS_hold hf.wet hok
  have e : trimOps m = [some (3, strB (markB m))] ++ [none] := rfl
  refine ⟨(runS a (trimOps m)).1, ?_, h1, h2, updF f 3 (strB (markB m)), ?_, ?_⟩
  · unfold trimF
    rw [if_neg (by rw [wrapU64, wrapU64]; omega), e, r1, if_pos rfl]
  · rw [e]; exact r2
  · have := hr.trim (m := m - t) (by omega) (by omega)
    rw [show t + (m - t) = m by omega] at this
    exact this
theorem trim_no {a : AD} {t n m : Nat} (h : m < t ∨ n ≤ m) (ht : t < 2 ^ 62) (hn : n < 2 ^ 62) (hm : m < 2 ^ 62) (htn : t < n) : trimF a t n m = (a, t, 1) := by
  unfold trimF
  rw [if_pos]
  rw [wrapU64, wrapU64]; omega
section
variable {p r : Nat} {a : AD} {F : List Nat} {w0 w : World} {X : List A} {Φ : Ending → World → Prop} {N S t : Nat} {recs : List (Int × List RP)}
theorem rformat_u (h : Dr p a F w0 w X) {f : Nat → ByteArray} (ha : a.Hold N f) (hS : slotsN (N : Int) = (S : Int)) (h1 : 1 ≤ S) (hN : N ≤ 4096) (hk : ∀ a' w', RAt a' N S 0 [] → Dr p a' F w0 w' X → Φ (.returned (.int .i64 0)) w') : Calls Tryz.prog 8 #[.pointer (some ⟨p, 0, none⟩)] w Φ := by
  obtain ⟨r1, r2⟩ := format_at ha.wet hS h1 hN
  refine (format_spec h (N := 0) (ha.few 0) (by omega) (by rw [ha.on.len]; exact hN)).mono fun e w' ⟨he, hd⟩ => ?_
  rw [he, r1]
  exact hk _ w' r2 hd
theorem ropen_u (h : Dr p a F w0 w X) (hR : RAt a N S t recs) (hk : ∀ r g cap lx w', (lx : List RcX).map (·.1) = numb (t + 1) recs → Dr p a F w0 w' (blk r (rgC p S t (t + 1 + recs.length)) 87 :: rowP 95 3 g recs.length cap (rxL lx) :: (rxOwn lx ++ X)) → Φ (.returned (.tuple #[.pointer (some ⟨r, 0, none⟩), .slice (ptr g) recs.length cap, .int .i64 0])) w') :
    Calls Tryz.prog 12 #[.pointer (some ⟨p, 0, none⟩)] w Φ := by
  obtain ⟨h1, h2, f, hf, hr⟩ := id hR
  have ho := hr.opened hf.wet h1
  have hsm := hr.small
  have hs := hr.sle
  have hl := hr.len
  refine (open_ring h (hf.few _) (by rw [hf.on.len]; exact h2)).mono fun e w' hh => ?_
  rw [ho, hf.on.len, h1, Int.toNat_natCast] at hh
  rcases hh with ⟨hb, _⟩ | ⟨_, _, r, g, cap, lx, he, hlx, hd⟩
  · exact absurd rfl hb
  · have hlx : lx.map (·.1) = recsF a S S ((t + 1) % 2 ^ 64) := hlx
    rw [Nat.mod_eq_of_lt (by omega), hr.found hf.wet] at hlx
    have hn : lx.length = recs.length := by rw [← List.length_map (f := (·.1)), hlx, numb_len]
    have hd : Dr p a F w0 w' (blk r (rgC p S t ((t + 1 + lx.length) % 2 ^ 64)) 87 :: rowP 95 3 g lx.length cap (rxL lx) :: (rxOwn lx ++ X)) := hd
    rw [hn, Nat.mod_eq_of_lt (by omega)] at hd
    rw [he, hn]
    exact hk r g cap lx w' hlx hd
theorem left_at (hR : RAt a N S t recs) : leftF S t (t + 1 + recs.length) = (S : Int) - recs.length := by
  have := hR.le
  rw [left_val (by omega) (by omega) (by omega)]; omega
theorem rleft_u (h : Dr p a F w0 w X) (hm : blk r (rgC p S t (t + 1 + recs.length)) 87 ∈ X) (hR : RAt a N S t recs) (hk : ∀ w', Dr p a F w0 w' X → Φ (.returned (.int .i64 ((S : Int) - recs.length))) w') : Calls Tryz.prog 29 #[.pointer (some ⟨r, 0, none⟩)] w Φ :=
  (left_spec h hm).mono fun e w' ⟨he, hx⟩ => by rw [he, left_at hR]; exact hk w' (h.quiet hx)
theorem rnext_u (h : Dr p a F w0 w X) {n : Nat} (hm : blk r (rgC p S t n) 87 ∈ X) (hk : ∀ w', Dr p a F w0 w' X → Φ (.returned (.int .u64 (n : Int))) w') : Calls Tryz.prog 31 #[.pointer (some ⟨r, 0, none⟩)] w Φ :=
  (next_spec h hm).mono fun e w' ⟨he, hx⟩ => by rw [he]; exact hk w' (h.quiet hx)
theorem rapp_u (h : Dr p a F w0 w (blk r (rgC p S t (t + 1 + recs.length)) 87 :: X)) (hR : RAt a N S t recs) (hlt : recs.length < S) {row : Int} {g : Option Nat} {c n : Nat} {l : List RP} (hn : n = l.length) (hp : rowP 71 3 g l.length c (rpL l) ∈ X) (hP : PlacedR row l) (hL : LoadedR l)
    (hk : ∀ a' w', RAt a' N S t (recs ++ [(row, l)]) → Dr p a' F w0 w' (blk r (rgC p S t (t + 1 + (recs ++ [(row, l)]).length)) 87 :: X) → Φ (.returned (.tuple #[.int .u64 ((t + 1 + recs.length : Nat) : Int), .int .i64 0])) w') :
    Calls Tryz.prog 24 #[.pointer (some ⟨r, 0, none⟩), .int .i64 row, .slice (ptr g) n c] w Φ := by
  subst hn
  have hle := hR.le
  have hleft := left_at hR
  obtain ⟨r1, r2⟩ := hR.app hlt hP hL
  refine (append_good h (N := 0) (hR.few 0) (by omega) hle.2.1 (by omega) (by omega) (by rw [hleft]; omega) hp hP hL).mono fun e w' ⟨he, hd⟩ => ?_
  rw [he, r1]
  rw [r1, if_pos rfl, Nat.mod_eq_of_lt (by omega)] at hd
  refine hk _ w' r2 ?_
  rw [List.length_append, List.length_singleton, ← Nat.add_assoc]
  exact hd
theorem rbusy_u (h : Dr p a F w0 w X) (hm : blk r (rgC p S t (t + 1 + recs.length)) 87 ∈ X) (hR : RAt a N S t recs) (hfull : recs.length = S) (row : Int) (q : Option Addr) (m c : Nat)
    (hk : ∀ w', Dr p a F w0 w' X → Φ (.returned (.tuple #[.int .u64 0, .int .i64 130])) w') :
    Calls Tryz.prog 24 #[.pointer (some ⟨r, 0, none⟩), .int .i64 row, .slice q m c] w Φ :=
  (append_busy h hm (by rw [left_at hR]; omega) row q m c).mono fun e w' ⟨he, hd⟩ => by rw [he]; exact hk w' hd
theorem rtrim_u (h : Dr p a F w0 w (blk r (rgC p S t (t + 1 + recs.length)) 87 :: X)) (hR : RAt a N S t recs) {m : Nat} {i : Int} (hi : i = (m : Int)) (hm : t ≤ m) (hm2 : m ≤ t + recs.length) (hsm : m + 1000000 < 2 ^ 64)
    (hk : ∀ a' w', RAt a' N S m (recs.drop (m - t)) → Dr p a' F w0 w' (blk r (rgC p S m (m + 1 + (recs.drop (m - t)).length)) 87 :: X) → Φ (.returned (.int .i64 0)) w') :
    Calls Tryz.prog 27 #[.pointer (some ⟨r, 0, none⟩), .int .u64 i] w Φ := by
  subst hi
  obtain ⟨a', e, hR'⟩ := hR.trimmed hm hm2 hsm
  refine (trim_spec' h (N := 0) (hR.few 0) (by omega) (m := m) (by omega)).mono fun e' w' ⟨he, hd⟩ => ?_
  rw [e] at he hd
  rw [he]
  refine hk a' w' hR' ?_
  rw [List.length_drop, show m + 1 + (recs.length - (m - t)) = t + 1 + recs.length by omega]
  exact hd
theorem rtrim_bad_u (h : Dr p a F w0 w (blk r (rgC p S t (t + 1 + recs.length)) 87 :: X)) (hR : RAt a N S t recs) (ht : t < 1000000) {m : Nat} {i : Int} (hi : i = (m : Int)) (hm : m < t ∨ t + 1 + recs.length ≤ m) (hm6 : m ≤ 1000000)
    (hk : ∀ w', Dr p a F w0 w' (blk r (rgC p S t (t + 1 + recs.length)) 87 :: X) → Φ (.returned (.int .i64 1)) w') :
    Calls Tryz.prog 27 #[.pointer (some ⟨r, 0, none⟩), .int .u64 i] w Φ := by
  subst hi
  have hle := hR.le
  have e := trim_no (a := a) hm (by omega) (by omega) (by omega) (by omega)
  refine (trim_spec' h (N := 0) (hR.few 0) (by omega) (m := m) (by omega)).mono fun e' w' ⟨he, hd⟩ => ?_
  rw [e] at he hd
  rw [he]
  exact hk w' hd
theorem rsome_u (h : Dr p a F w0 w X) {q : Option Addr} {l : List ByteArray} {c n : Nat} (hn : n = l.length) (hs : ∀ w' Δ, T F w0 w' (Δ ++ X) → strsAt w' q l) (hk6 : ∀ s ∈ l, s.size ≤ 100) (hl : l.length ≤ 1000000) (hk : ∀ g cap w', Dr p a F w0 w' (rowP 71 3 g (someL l).length cap (rpL (someL l)) :: X) → Φ (.returned (.slice (ptr g) (someL l).length cap)) w') :
    Calls Tryz.prog 23 #[.slice q n c] w Φ := by
  subst hn
  refine Dr.intoT (Y := []) h fun Γ hT hback => ?_
  refine (some_spec hT (fun w' Δ h' => hs w' Δ ?_) hk6 hl).mono fun e w' ⟨g, cap, he, h'⟩ => ?_
  · rw [← List.append_assoc] at h'
    exact T.dropAll (h'.swap List.perm_append_comm)
  · rw [he]; exact hk g cap w' (hback w' [_] h')
end
theorem Dr.drop2 {p : Nat} {a : AD} {F : List Nat} {w0 w : World} {x y : A} {X : List A} (h : Dr p a F w0 w (x :: y :: X)) : Dr p a F w0 w (x :: X) := (Dr.perm h (.swap _ _ _)).dropX
theorem rshown_spec (w : World) : Ret Tryz.prog 5 #[] w (.bool true) := by
  refine ret_of (revetmentlaw13_shown_calls ?_)
  unfold revetmentlaw13_shown
  refine new_u (n := 90) (T.nil w) (by omega) fun p w1 h1 => ⟨_, rfl, no rfl ?_⟩
  refine rformat_u (S := 2) h1 (hold_new 90) (by decide) (by decide) (by decide) fun a w2 hR h2 => ⟨_, rfl, no rfl ?_⟩
  refine ropen_u h2 hR fun r g cap lx w3 hlx h3 => ⟨_, _, _, _, _, rfl, no rfl (no rfl (no rfl ?_))⟩
  have e1 : (ByteArray.mk #[97]) = strB [97] := rfl
  rw [e1]
  refine Dr.alloc h3 fun k w4 h4 => ?_
  refine rsome_u (l := [strB [97]]) h4 rfl (fun w' Δ h' => ?_) (by simp [strB_size]) (by decide) fun g2 c2 w5 h5 => ⟨_, _, _, rfl, ?_⟩
  · refine ⟨fun _ => ⟨_, rfl⟩, fun a ha j s hj => ?_⟩
    cases ha
    have hm := h'.ld (b := k) (i := j) (List.mem_append_right _ List.mem_cons_self) (v := .string s) (by
      match j, hj with
      | 0, hj => cases hj; rfl
      | j + 1, hj => simp at hj)
    rw [addr_add, Nat.zero_add]; exact hm
  · have h5 : Dr p a [] w w5 (rowP 71 3 g2 (someL [strB [97]]).length c2 (rpL (someL [strB [97]])) :: blk k #[.string (strB [97])] 9 :: blk r (rgC p 2 0 1) 87 :: (rowP 95 3 g 0 cap (rxL lx) :: (rxOwn lx ++ []))) := h5
    have h5 := Dr.perm h5 (List.perm_middle (l₁ := [_, _]))
    obtain ⟨hP, hL⟩ := someL_ok (l := [strB [97]]) (by simp) (row := 3) (by omega) (by omega)
    refine rapp_u (recs := []) h5 hR (by decide) rfl List.mem_cons_self hP hL fun a' w6 hR' h6 => ⟨_, _, rfl, yes rfl (yes rfl ?_)⟩
    refine rleft_u h6 List.mem_cons_self hR' fun w7 h7 => ⟨_, rfl, yes rfl ?_⟩
    refine rnext_u h7 List.mem_cons_self fun w8 h8 => ⟨_, rfl, yes rfl ?_⟩
    refine (slots_spec 90 (by omega) (by omega) w8).mono fun e w9 ⟨he9, hx9⟩ => ⟨_, he9, ?_, h8.ext.trans hx9⟩
    rfl
theorem rshown_end {w w1 : World} (hx : Ext w w1) : Calls Tryz.prog 5 #[] w1 fun e w2 => ∃ b : Bool, e = .returned (.bool b) ∧ RetR w (.bool true) (.bool b) w2 :=
  (rshown_spec w1).mono fun e w2 ⟨he, hx2⟩ => ⟨true, he, rfl, hx.trans hx2⟩
end Go.Proofs.YtbecjmfcppginaaGreat
end
section
/-! law13: RingActs. -/
namespace Go.Proofs.YtbecjmfcppginaaGreat
open Go.Sh Go.RowKit
set_option linter.unusedVariables false
set_option linter.unusedSimpArgs false
set_option maxRecDepth 20000
set_option maxHeartbeats 4000000
theorem crash_few (a : AD) (keep : List UInt8) (N : Nat) : (a.crash keep).Few N := fun j => Nat.zero_le _
theorem crash_len (a : AD) (keep : List UInt8) : (a.crash keep).safe.length = a.safe.length := keptFrom_len ..
theorem spoil_len (a : AD) (i : Int) : (a.spoil i).safe.length = a.safe.length := by unfold AD.spoil; split <;> rfl
theorem rings_acts {n0 : Int} {p1 : Option Addr} {c1 : Nat} {l : List RAct} {w : World} (hn : 0 ≤ n0 ∧ n0 < 65536) (H : ractsAt w p1 l) : Ret Tryz.prog 3 #[.int .u16 n0, .slice p1 l.length c1] w (.bool true) := by
  refine ret_of (revetmentlaw13_RingActs_calls ?_)
  unfold revetmentlaw13_RingActs
  refine (weighs_spec H).mono fun e w1 ⟨b, he, hx1, hb⟩ => ⟨b, he, fun _ => rshown_end hx1, fun hb0 => ?_⟩
  obtain ⟨hl40, hok⟩ := hb hb0
  refine (rshown_spec w1).mono fun e w3 ⟨he3, hx3⟩ => ⟨_, he3, no rfl ?_⟩
  have hT := (T.nil w).quiet (hx1.trans hx3)
  obtain ⟨N, hN, hN1, hN180⟩ : ∃ N : Nat, IntKind.i64.wrap (1 + Int.tmod (IntKind.i64.wrap n0) 180) = (N : Int) ∧ 1 ≤ N ∧ N ≤ 180 := by
    refine ⟨(1 + n0 % 180).toNat, ?_, by omega, by omega⟩
    rw [wrap64 n0 (by omega) (by omega), Int.tmod_eq_emod_of_nonneg hn.1, wrap64 _ (by omega) (by omega)]; omega
  rw [hN, wrap64 n0 (by omega) (by omega)]
  obtain ⟨S, hS⟩ : ∃ S : Nat, (slotsN (N : Int)).toNat = S := ⟨_, rfl⟩
  refine (duo_new hT ⟨hN1, by omega⟩).mono fun e w5 ⟨p, he5, hc⟩ => ⟨_, he5, hc.mono fun e w6 ⟨q, he6, h6⟩ => ⟨_, he6, no rfl ?_⟩⟩
  refine (duo_format h6 (few_new N 0) (by omega)).mono fun e w7 ⟨he7, hc⟩ => ⟨_, he7, hc.mono fun e w8 ⟨he8, h8⟩ => ⟨_, he8, bne_t fun hne => absurd rfl hne, bne_f fun _ => ?_⟩⟩
  refine (slots_spec n0 (by omega) (by omega) w8).mono fun e w9 ⟨he9, hx9⟩ => ⟨_, he9, ?_⟩
  refine (slots13_spec n0 (by omega) (by omega) w9).mono fun e w10 ⟨he10, hx10⟩ => ⟨_, he10, bne_t fun hne => absurd rfl hne, bne_f fun _ => ?_⟩
  have hlen0 : (formatF (AD.new N)).1.safe.length = N := by rw [formatF_len]; exact List.length_replicate
  have hF0 : (formatF (AD.new N)).1.Few 1000 := (formatF_few (few_new N 0) (by show (List.replicate N zeroSec).length ≤ 4096; rw [List.length_replicate]; omega)).mono (by omega)
  have h10 := (h8.quiet hx9).quiet hx10
  generalize (formatF (AD.new N)).1 = a0 at hlen0 hF0 h10
  refine (duo_open (S := S) h10 (hF0.mono (by omega)) (by rw [hlen0]; exact hS)).mono fun e w11 ⟨pr, g, c, lx, he11, hc⟩ => ⟨_, _, _, _, _, he11, hc.mono fun e w12 ⟨st, g', c', ly, he12, hst, hSt, _, _, _, h12⟩ => ⟨_, _, _, _, _, he12, bne_t fun hne => absurd rfl hne, bne_f fun _ => ?_⟩⟩
  subst hst
  refine ⟨fun vs w' => ∃ (i : Nat) (a : AD) (st : Option RSt) (Y : List A), vs = [.pointer (ptr (st.map fun x => x.1)), .pointer (ptr (st.map fun x => x.2.1)), .int .i64 (i : Int)] ∧ i ≤ l.length ∧ a.safe.length = N ∧ a.Few (1000 * (i + 1)) ∧ StOk S st ∧ Duo p q a a [] w w' (rgX p q S st ++ Y), fun vs _ => match vs with | [_, _, .int _ i] => (l.length - i).toNat | _ => 0, ⟨0, a0, st, _, rfl, by omega, hlen0, hF0, hSt, h12⟩, ?_⟩
  rintro vs w13 ⟨i, a, st, Y, rfl, hi, hlen, hF, hSt, h13⟩
  refine ⟨_, _, _, rfl, dec_t fun hlt => ?_, dec_f fun hge => ⟨rfl, h13.ext⟩⟩
  have hlt : i < l.length := by omega
  have hnx : IntKind.i64.wrap ((i : Int) + 1) = ((i + 1 : Nat) : Int) := by rw [wrap64 _ (by omega) (by omega)]; omega
  have hms : ((l.length : Int) - IntKind.i64.wrap ((i : Int) + 1)).toNat < ((l.length : Int) - (i : Int)).toNat := by rw [wrap64 _ (by omega) (by omega)]; omega
  obtain ⟨aa, haa, A0⟩ := H.get (.refl w) hlt
  have hox := hok l[i] (List.getElem_mem hlt)
  generalize l[i] = x at A0 hox
  obtain ⟨hs20, hs100, hp50, hk50⟩ := hox
  have hA := A0.ext h13.ext
  refine ⟨aa, haa, by omega, by omega, x.k, x.i, x.pS, x.s.length, x.cS, x.pP, x.parts.length, x.cP, x.pK, x.keep.length, x.cK, ⟨by rw [Int.toNat_natCast]; exact hA.zero, by rw [Int.toNat_natCast]; exact hA.at_ 1 _ rfl, by rw [Int.toNat_natCast]; exact hA.at_ 2 _ rfl, by rw [Int.toNat_natCast]; exact hA.at_ 3 _ rfl, by rw [Int.toNat_natCast]; exact hA.at_ 4 _ rfl⟩, ?_⟩
  refine h13.alloc fun k15 w14 h14 => ?_
  refine Duo.st1 (c' := #[.int .i64 x.k, .int .i64 0, .slice none 0 0, .slice none 0 0, .slice none 0 0]) h14 (show 0 < 5 by decide) rfl rfl fun w15 h15 => Duo.st1 (c' := #[.int .i64 x.k, .int .i64 x.i, .slice none 0 0, .slice none 0 0, .slice none 0 0]) h15 (show 1 < 5 by decide) rfl rfl fun w16 h16 => Duo.st1 (c' := #[.int .i64 x.k, .int .i64 x.i, .slice x.pS x.s.length x.cS, .slice none 0 0, .slice none 0 0]) h16 (show 2 < 5 by decide) rfl rfl fun w17 h17 => Duo.st1 (c' := #[.int .i64 x.k, .int .i64 x.i, .slice x.pS x.s.length x.cS, .slice x.pP x.parts.length x.cP, .slice none 0 0]) h17 (show 3 < 5 by decide) rfl rfl fun w18 h18 => Duo.st1 (c' := raC x) h18 (show 4 < 5 by decide) rfl rfl fun w19 h19 => ?_
  have ld : ∀ {w' : World} {a b : AD} {X : List A}, Duo p q a b [] w w' X → blk k15 (raC x) 46 ∈ X → ∀ (m : Nat) (v : Value), (raC x)[m]? = some v → w'.cell? ⟨k15, m, none⟩ = some v := fun h hm m v hv => h.under.ld hm hv
  have B0 : ∀ {X : List A}, blk k15 (raC x) 46 ∈ blk k15 (raC x) 46 :: X := List.mem_cons_self
  refine Join.intro fun J hJ => ?_
  have jA : ∀ b16 : Bool, J [.bool b16] w19 := by
    intro b16
    refine hJ _ _ ⟨_, rfl, ?_⟩
    refine Join.intro fun J1 hJ1 => ?_
    have j1 : ∀ (a : AD) (w21 : World), a.safe.length = N → a.Few (1000 * (i + 1) + 200) → Duo p q a a [] w w21 (blk k15 (raC x) 46 :: (rgX p q S st ++ Y)) → J1 [] w21 := by
      intro a w21 hlen hF h21
      refine hJ1 _ _ ⟨rfl, ?_⟩
      have hSa : (slotsN (a.safe.length : Int)).toNat = S := by rw [hlen]; exact hS
      refine Join.intro fun J2 hJ2 => ?_
      have j2 : ∀ (st : Option RSt) (Y : List A) (w22 : World), StOk S st → Duo p q a a [] w w22 (blk k15 (raC x) 46 :: (rgX p q S st ++ Y)) → J2 [.pointer (ptr (st.map fun x => x.1)), .pointer (ptr (st.map fun x => x.2.1))] w22 := by
        intro st Y w22 hSt h22
        refine hJ2 _ _ ⟨_, _, rfl, ?_⟩
        cases st with
        | none => exact yes rfl (no rfl ⟨⟨i + 1, a, none, Y, by rw [hnx], by omega, hlen, hF.mono (by omega), hSt, h22.dropX⟩, hms⟩)
        | some y =>
          obtain ⟨r, s, t, n⟩ := y
          obtain ⟨ht64, hn64, h1S⟩ := hSt _ rfl
          have ht64 : t < 2 ^ 64 := ht64
          have hn64 : n < 2 ^ 64 := hn64
          refine no rfl (no rfl ?_)
          have h22 : Duo p q a a [] w w22 (blk k15 (raC x) 46 :: blk r (rgC p S t n) 87 :: blk s (krC q t n) 65 :: Y) := h22
          refine Join.intro fun J3 hJ3 => ?_
          have j3 : ∀ (a : AD) (n : Nat) (Y : List A) (w23 : World), a.safe.length = N → a.Few (1000 * (i + 1) + 400) → n < 2 ^ 64 → Duo p q a a [] w w23 (blk k15 (raC x) 46 :: blk r (rgC p S t n) 87 :: blk s (krC q t n) 65 :: Y) → J3 [] w23 := by
            intro a n Y w23 hlen hF hn64 h23
            have hSa : (slotsN (a.safe.length : Int)).toNat = S := by rw [hlen]; exact hS
            refine hJ3 _ _ ⟨rfl, ?_⟩
            refine Join.intro fun J4 hJ4 => ?_
            have j4 : ∀ (a : AD) (t : Nat) (w24 : World), a.safe.length = N → a.Few (1000 * (i + 1) + 600) → t < 2 ^ 64 → Duo p q a a [] w w24 (blk k15 (raC x) 46 :: blk r (rgC p S t n) 87 :: blk s (krC q t n) 65 :: Y) → J4 [] w24 := by
              intro a t w24 hlen hF ht64 h24
              have hSa : (slotsN (a.safe.length : Int)).toNat = S := by rw [hlen]; exact hS
              refine hJ4 _ _ ⟨rfl, ?_⟩
              have h24d := h24.drew
              refine ⟨fun w' => Duo p q a a [] w w' (blk k15 (raC x) 46 :: blk r (rgC p S t n) 87 :: blk s (krC q t n) 65 :: Y), h24d, ?_⟩
              refine Duo.d h24d fun Z hd hb => (left_spec hd (List.mem_cons_of_mem _ List.mem_cons_self)).mono fun e w25 ⟨he25, hx25⟩ => ⟨_, he25, h24d.quiet hx25, ?_⟩
              refine Duo.r (h24d.quiet hx25) fun Z hr hb => (left13_spec hr (List.mem_cons_of_mem _ (List.mem_cons_of_mem _ List.mem_cons_self))).mono fun e w26 ⟨he26, h26⟩ => ⟨_, he26, ?_⟩
              have h26 : Duo p q a a [] w w26 (blk k15 (raC x) 46 :: blk r (rgC p S t n) 87 :: blk s (krC q t n) 65 :: Y) := hb _ w26 _ h26
              rw [hSa]
              refine ⟨h26, bne_t fun hne => absurd rfl hne, bne_f fun _ => ?_⟩
              refine Duo.d h26 fun Z hd hb => (next_spec hd (List.mem_cons_of_mem _ List.mem_cons_self)).mono fun e w27 ⟨he27, hx27⟩ => ⟨_, he27, h26.quiet hx27, ?_⟩
              refine ⟨_, rfl, (n : Int), fun w' h' => by rw [addr_add]; exact h'.under.ld (c := krC q t n) (List.mem_cons_of_mem _ (List.mem_cons_of_mem _ List.mem_cons_self)) rfl, bne_t fun hne => absurd rfl hne, bne_f fun _ => ?_⟩
              refine ⟨⟨i + 1, a, some (r, s, t, n), Y, by rw [hnx]; rfl, by omega, hlen, hF.mono (by omega), ?_, (h26.quiet hx27).dropX⟩, hms⟩
              intro y hy; cases hy
              exact ⟨ht64, hn64, h1S⟩
            have h23d := h23.drew
            have inX : ∀ {w' : World} {a b : AD} {X : List A}, Duo p q a b [] w w' X → blk s (krC q t n) 65 ∈ X → w'.cell? ⟨s, 1, none⟩ = some (.int .u64 (t : Int)) := fun h hm => h.under.ld (c := krC q t n) hm rfl
            refine ⟨fun w' => ∃ (a b : AD) (X : List A), blk k15 (raC x) 46 ∈ X ∧ blk s (krC q t n) 65 ∈ X ∧ Duo p q a b [] w w' X, ⟨a, a, _, B0, List.mem_cons_of_mem _ (List.mem_cons_of_mem _ List.mem_cons_self), h23d⟩, x.k, fun w' ⟨a, b, X, h1, h2, h3⟩ => ld h3 h1 0 _ rfl, beq_t fun _ => ?_, beq_f fun _ => j4 a t _ hlen (hF.mono (by omega)) ht64 h23d⟩
            obtain ⟨m, hm, hm64⟩ : ∃ m : Nat, IntKind.u64.wrap ((t : Int) + IntKind.u64.wrap x.i) = (m : Int) ∧ m < 2 ^ 64 := ⟨(IntKind.u64.wrap ((t : Int) + IntKind.u64.wrap x.i)).toNat, by rw [wrapU64]; omega, by rw [wrapU64]; omega⟩
            refine ⟨_, rfl, (t : Int), fun w' ⟨a, b, X, h1, h2, h3⟩ => by rw [addr_add]; exact inX h3 h2, x.i, fun w' ⟨a, b, X, h1, h2, h3⟩ => ld h3 h1 1 _ rfl, ?_⟩
            rw [hm]
            have h23p := h23d.perm (List.Perm.swap _ _ _)
            refine Duo.d h23p fun Z hd hb => (trim_spec' hd (hF.mono (Nat.le_refl _)) (by omega) hm64).mono fun e w28 ⟨he28, h28⟩ => ⟨_, he28, ?_⟩
            have h28 : Duo p q (trimF a t n m).1 a [] w w28 (blk r (rgC p S (trimF a t n m).2.1 n) 87 :: blk k15 (raC x) 46 :: blk s (krC q t n) 65 :: Y) := hb _ w28 _ h28
            refine ⟨⟨_, _, _, List.mem_cons_of_mem _ List.mem_cons_self, List.mem_cons_of_mem _ (List.mem_cons_of_mem _ List.mem_cons_self), h28⟩, _, rfl, (t : Int), fun w' ⟨a, b, X, h1, h2, h3⟩ => by rw [addr_add]; exact inX h3 h2, x.i, fun w' ⟨a, b, X, h1, h2, h3⟩ => ld h3 h1 1 _ rfl, ?_⟩
            rw [hm]
            have h28p := h28.perm (List.perm_middle (l₁ := [_, _]))
            refine Duo.r h28p fun Z hr hb => (trim13_spec hr (hF.mono (Nat.le_refl _)) (by omega) hm64).mono fun e w29 ⟨he29, h29⟩ => ⟨_, he29, bne_t fun hne => absurd rfl hne, bne_f fun _ => ?_⟩
            have h29 : Duo p q (trimF a t n m).1 (trimF a t n m).1 [] w w29 (blk s (krC q (trimF a t n m).2.1 n) 65 :: blk r (rgC p S (trimF a t n m).2.1 n) 87 :: blk k15 (raC x) 46 :: Y) := hb _ w29 _ h29
            refine j4 (trimF a t n m).1 (trimF a t n m).2.1 w29 (by rw [trimF_len]; exact hlen) ((trimF_few hF t n m).mono (by omega)) (trimF_lt ht64 hm64) (h29.perm ?_)
            exact (List.perm_middle (l₁ := [_, _])).trans (List.Perm.cons _ (List.Perm.swap _ _ _))
          have hcells : ∀ {w' : World} {a b : AD} {X : List A}, Duo p q a b [] w w' X → blk k15 (raC x) 46 ∈ X → w'.cell? ⟨k15, 0, none⟩ = some (.int .i64 x.k) := fun h hm => ld h hm 0 _ rfl
          have h1S : 1 ≤ S := h1S
          have hS99 : S ≤ 1000000 := by unfold slotsN at hS; omega
          refine ⟨_, hcells h22 B0, beq_t fun hk0 => ?_, beq_f fun hk0 => ⟨_, hcells h22 B0, beq_t fun hk1 => ?_, beq_f fun _ => j3 a n Y w22 hlen (hF.mono (by omega)) hn64 h22⟩⟩
          · refine ⟨_, _, _, ld h22 B0 3 _ rfl, ?_⟩
            refine Join.intro fun J5 hJ5 => ?_
            have j5 : ∀ (P : Option Addr) (m c : Nat) (L : List RP) (Y : List A) (w30 : World), m = L.length → L.length ≤ 1000000 → (∀ (w' : World) (Δ : List A), T [] w w' (Δ ++ Y) → partsAt w' P L) → Duo p q a a [] w w30 (blk k15 (raC x) 46 :: blk r (rgC p S t n) 87 :: blk s (krC q t n) 65 :: Y) → J5 [.slice P m c] w30 := by
              intro P m c L Y w30 hm hL hp h30
              subst hm
              refine hJ5 _ _ ⟨_, _, _, rfl, x.i, ld h30 B0 1 _ rfl, ?_⟩
              refine Duo.d (h30.perm (List.Perm.swap _ _ _)) fun Z hd hb => (append_all hd (hF.mono (Nat.le_refl _)) (by omega) h1S hS99 hn64 (row := x.i) (g := P) (c := c) (l := L) rfl (fun w' Δ h' => hp w' (Δ ++ [_, _]) (by
                have := parts_under (X := blk k15 (raC x) 46 :: blk s (krC q t n) 65 :: Y) (Γ := Z) h'
                rw [List.append_assoc]; exact this)) hL).mono fun e w31 ⟨he31, h31⟩ => ⟨_, _, he31, ?_⟩
              have h31 : Duo p q (apF a S t n x.i L).1 a [] w w31 (blk r (rgC p S t (apF a S t n x.i L).2.1) 87 :: blk k15 (raC x) 46 :: blk s (krC q t n) 65 :: Y) := hb _ w31 _ h31
              have h31d := h31.drew
              refine ⟨fun w' => ∃ (a b : AD) (X : List A), blk k15 (raC x) 46 ∈ X ∧ Duo p q a b [] w w' X, ⟨_, _, _, List.mem_cons_of_mem _ List.mem_cons_self, h31d⟩, x.i, fun w' ⟨a, b, X, h1, h3⟩ => ld h3 h1 1 _ rfl, ?_⟩
              refine Duo.intoT h31d fun Γ hT hback => (theirs_p (p := P) (l := L) hT (fun w' Δ h' => hp w' (Δ ++ [_, _, _]) (by
                have := parts_under (X := blk r (rgC p S t (apF a S t n x.i L).2.1) 87 :: blk k15 (raC x) 46 :: blk s (krC q t n) 65 :: Y) (Γ := Γ) h'
                rw [List.append_assoc]; exact this)) hL).mono fun e w32 ⟨g32, c32, he32, hT32⟩ => ⟨_, _, _, he32, ?_⟩
              have h32 : Duo p q (apF a S t n x.i L).1 a [] w w32 (rowP 115 3 g32 L.length c32 (rpL L) :: blk r (rgC p S t (apF a S t n x.i L).2.1) 87 :: blk k15 (raC x) 46 :: blk s (krC q t n) 65 :: Y) := hback w32 [_] hT32
              refine ⟨⟨_, _, _, List.mem_cons_of_mem _ (List.mem_cons_of_mem _ List.mem_cons_self), h32⟩, ?_⟩
              refine Duo.r (h32.perm (List.perm_middle (l₁ := [_, _, _]))) fun Z hr hb => (append13_all hr (hF.mono (Nat.le_refl _)) (by omega) hSa h1S hn64 (row := x.i) (g := g32) (c := c32) (l := L) rfl List.mem_cons_self hL).mono fun e w33 ⟨he33, h33⟩ => ⟨_, _, he33, ?_⟩
              have h33 : Duo p q (apF a S t n x.i L).1 (apF a S t n x.i L).1 [] w w33 (blk s (krC q t (apF a S t n x.i L).2.1) 65 :: rowP 115 3 g32 L.length c32 (rpL L) :: blk r (rgC p S t (apF a S t n x.i L).2.1) 87 :: blk k15 (raC x) 46 :: Y) := hb _ w33 _ h33
              refine ⟨⟨_, _, _, List.mem_cons_of_mem _ (List.mem_cons_of_mem _ (List.mem_cons_of_mem _ List.mem_cons_self)), h33⟩, bne_t fun hne => absurd rfl hne, bne_f fun _ => ⟨bne_t fun hne => absurd rfl hne, bne_f fun _ => ?_⟩⟩
              refine j3 (apF a S t n x.i L).1 (apF a S t n x.i L).2.1 (rowP 115 3 g32 L.length c32 (rpL L) :: Y) w33 (by rw [apF_len]; exact hlen) ((apF_few hF S t n x.i L).mono (by omega)) (apF_lt hn64 x.i L) (h33.perm ?_)
              exact (List.perm_append_comm_assoc [_, _] [_, _] Y).trans (List.Perm.swap _ _ _)
            refine ⟨_, hcells h22 B0, beq_t fun hk => ?_, beq_f fun hk => ?_⟩
            · refine ⟨_, _, _, ld h22 B0 2 _ rfl, ?_⟩
              refine Duo.intoT h22 fun Γ hT hback => (some_spec (l := x.s) hT (fun w' Δ h' => A0.str.ext h'.chg.ext) hs100 (by omega)).mono fun e w34 ⟨g34, c34, he34, hT34⟩ => ⟨_, _, _, he34, ?_⟩
              have h34 : Duo p q a a [] w w34 (rowP 71 3 g34 (someL x.s).length c34 (rpL (someL x.s)) :: blk k15 (raC x) 46 :: blk r (rgC p S t n) 87 :: blk s (krC q t n) 65 :: Y) := hback w34 [_] hT34
              exact j5 _ _ _ (someL x.s) (rowP 71 3 g34 (someL x.s).length c34 (rpL (someL x.s)) :: Y) w34 rfl (by rw [someL_len]; omega) (fun w' Δ h' => (T.parts h' (List.mem_append_right _ List.mem_cons_self)).1) (h34.perm (List.perm_middle (l₁ := [_, _, _])).symm)
            · exact j5 _ _ _ x.parts Y w22 rfl (by omega) (fun w' Δ h' => A0.prt.ext h'.chg.ext) h22
          · refine ⟨_, _, _, ld h22 B0 3 _ rfl, ?_⟩
            refine Join.intro fun J5 hJ5 => ?_
            have j5 : ∀ (P : Option Addr) (m c : Nat) (L : List RP) (Y : List A) (w30 : World), m = L.length → L.length ≤ 1000000 → (∀ (w' : World) (Δ : List A), T [] w w' (Δ ++ Y) → partsAt w' P L) → Duo p q a a [] w w30 (blk k15 (raC x) 46 :: blk r (rgC p S t n) 87 :: blk s (krC q t n) 65 :: Y) → J5 [.slice P m c] w30 := by
              intro P m c L Y w30 hm hL hp h30
              subst hm
              refine hJ5 _ _ ⟨_, _, _, rfl, x.i, ld h30 B0 1 _ rfl, ?_⟩
              refine Duo.d (h30.perm (List.Perm.swap _ _ _)) fun Z hd hb => (append_all hd (hF.mono (Nat.le_refl _)) (by omega) h1S hS99 hn64 (row := x.i) (g := P) (c := c) (l := L) rfl (fun w' Δ h' => hp w' (Δ ++ [_, _]) (by
                have := parts_under (X := blk k15 (raC x) 46 :: blk s (krC q t n) 65 :: Y) (Γ := Z) h'
                rw [List.append_assoc]; exact this)) hL).mono fun e w31 ⟨he31, h31⟩ => ⟨_, _, he31, ?_⟩
              have h31 : Duo p q (apF a S t n x.i L).1 a [] w w31 (blk r (rgC p S t (apF a S t n x.i L).2.1) 87 :: blk k15 (raC x) 46 :: blk s (krC q t n) 65 :: Y) := hb _ w31 _ h31
              have h31d := h31.drew
              refine ⟨fun w' => ∃ (a b : AD) (X : List A), blk k15 (raC x) 46 ∈ X ∧ Duo p q a b [] w w' X, ⟨_, _, _, List.mem_cons_of_mem _ List.mem_cons_self, h31d⟩, x.i, fun w' ⟨a, b, X, h1, h3⟩ => ld h3 h1 1 _ rfl, ?_⟩
              refine Duo.intoT h31d fun Γ hT hback => (theirs_p (p := P) (l := L) hT (fun w' Δ h' => hp w' (Δ ++ [_, _, _]) (by
                have := parts_under (X := blk r (rgC p S t (apF a S t n x.i L).2.1) 87 :: blk k15 (raC x) 46 :: blk s (krC q t n) 65 :: Y) (Γ := Γ) h'
                rw [List.append_assoc]; exact this)) hL).mono fun e w32 ⟨g32, c32, he32, hT32⟩ => ⟨_, _, _, he32, ?_⟩
              have h32 : Duo p q (apF a S t n x.i L).1 a [] w w32 (rowP 115 3 g32 L.length c32 (rpL L) :: blk r (rgC p S t (apF a S t n x.i L).2.1) 87 :: blk k15 (raC x) 46 :: blk s (krC q t n) 65 :: Y) := hback w32 [_] hT32
              refine ⟨⟨_, _, _, List.mem_cons_of_mem _ (List.mem_cons_of_mem _ List.mem_cons_self), h32⟩, ?_⟩
              refine Duo.r (h32.perm (List.perm_middle (l₁ := [_, _, _]))) fun Z hr hb => (append13_all hr (hF.mono (Nat.le_refl _)) (by omega) hSa h1S hn64 (row := x.i) (g := g32) (c := c32) (l := L) rfl List.mem_cons_self hL).mono fun e w33 ⟨he33, h33⟩ => ⟨_, _, he33, ?_⟩
              have h33 : Duo p q (apF a S t n x.i L).1 (apF a S t n x.i L).1 [] w w33 (blk s (krC q t (apF a S t n x.i L).2.1) 65 :: rowP 115 3 g32 L.length c32 (rpL L) :: blk r (rgC p S t (apF a S t n x.i L).2.1) 87 :: blk k15 (raC x) 46 :: Y) := hb _ w33 _ h33
              refine ⟨⟨_, _, _, List.mem_cons_of_mem _ (List.mem_cons_of_mem _ (List.mem_cons_of_mem _ List.mem_cons_self)), h33⟩, bne_t fun hne => absurd rfl hne, bne_f fun _ => ⟨bne_t fun hne => absurd rfl hne, bne_f fun _ => ?_⟩⟩
              refine j3 (apF a S t n x.i L).1 (apF a S t n x.i L).2.1 (rowP 115 3 g32 L.length c32 (rpL L) :: Y) w33 (by rw [apF_len]; exact hlen) ((apF_few hF S t n x.i L).mono (by omega)) (apF_lt hn64 x.i L) (h33.perm ?_)
              exact (List.perm_append_comm_assoc [_, _] [_, _] Y).trans (List.Perm.swap _ _ _)
            refine ⟨_, hcells h22 B0, beq_t fun hk => ?_, beq_f fun hk => ?_⟩
            · refine ⟨_, _, _, ld h22 B0 2 _ rfl, ?_⟩
              refine Duo.intoT h22 fun Γ hT hback => (some_spec (l := x.s) hT (fun w' Δ h' => A0.str.ext h'.chg.ext) hs100 (by omega)).mono fun e w34 ⟨g34, c34, he34, hT34⟩ => ⟨_, _, _, he34, ?_⟩
              have h34 : Duo p q a a [] w w34 (rowP 71 3 g34 (someL x.s).length c34 (rpL (someL x.s)) :: blk k15 (raC x) 46 :: blk r (rgC p S t n) 87 :: blk s (krC q t n) 65 :: Y) := hback w34 [_] hT34
              exact j5 _ _ _ (someL x.s) (rowP 71 3 g34 (someL x.s).length c34 (rpL (someL x.s)) :: Y) w34 rfl (by rw [someL_len]; omega) (fun w' Δ h' => (T.parts h' (List.mem_append_right _ List.mem_cons_self)).1) (h34.perm (List.perm_middle (l₁ := [_, _, _])).symm)
            · exact j5 _ _ _ x.parts Y w22 rfl (by omega) (fun w' Δ h' => A0.prt.ext h'.chg.ext) h22
      refine ⟨fun hb => ?_, fun hb => j2 st Y w21 hSt h21⟩
      refine (duo_open (S := S) h21 (hF.mono (by omega)) hSa).mono fun e w40 ⟨pr, g, c, lx, he40, hc⟩ => ⟨_, _, _, _, _, he40, hc.mono fun e w41 ⟨st', g', c', ly, he41, hst, hSt', hxy, hx41, hx99, h41⟩ => ⟨_, _, _, _, _, he41, bne_t fun hne => absurd rfl hne, bne_f fun _ => ?_⟩⟩
      subst hst
      refine Duo.intoT h41 fun Γ hT hback => (rsamel_spec (lx := lx) (ly := ly) hT (List.mem_append_left _ (List.mem_append_right _ List.mem_cons_self)) (fun y hy => List.mem_append_left _ (List.mem_append_right _ (List.mem_cons_of_mem _ (List.mem_cons_of_mem _ (List.mem_append_left _ (List.mem_map.2 ⟨y, hy, rfl⟩)))))) (List.mem_append_left _ (List.mem_append_right _ (List.mem_cons_of_mem _ List.mem_cons_self))) (fun y hy => List.mem_append_left _ (List.mem_append_right _ (List.mem_cons_of_mem _ (List.mem_cons_of_mem _ (List.mem_append_right _ (List.mem_append_left _ (List.mem_map.2 ⟨y, hy, rfl⟩))))))) hxy hx41 hx99).mono fun e w42 ⟨he42, hT42⟩ => ⟨_, he42, no rfl ?_⟩
      have h42 := hback w42 [] hT42
      refine no (by cases st' <;> rfl) ?_
      refine j2 st' ((rowP 95 3 g lx.length c (rxL lx) :: rowP 99 3 g' ly.length c' (rxL ly) :: (rxOwn lx ++ ryOwn ly)) ++ (rgX p q S st ++ Y)) w42 hSt' (h42.perm ?_)
      generalize rxOwn lx = U
      generalize ryOwn ly = V
      generalize rgX p q S st' = G
      generalize rgX p q S st ++ Y = Z
      have e1 : [] ++ (G ++ rowP 95 3 g lx.length c (rxL lx) :: rowP 99 3 g' ly.length c' (rxL ly) :: (U ++ (V ++ blk k15 (raC x) 46 :: Z))) = (G ++ rowP 95 3 g lx.length c (rxL lx) :: rowP 99 3 g' ly.length c' (rxL ly) :: (U ++ V)) ++ blk k15 (raC x) 46 :: Z := by simp [List.append_assoc]
      rw [e1]
      refine List.perm_middle.trans (List.Perm.cons _ ?_)
      rw [List.append_assoc]
    have D0 : ∀ {w' : World} {a b : AD}, Duo p q a b [] w w' (blk k15 (raC x) 46 :: (rgX p q S st ++ Y)) → ∃ a b, Duo p q a b [] w w' (blk k15 (raC x) 46 :: (rgX p q S st ++ Y)) := fun h => ⟨_, _, h⟩
    refine ⟨_, ld h19 B0 0 _ rfl, fun _ => ?_, fun _ => ⟨fun _ => ?_, fun _ => ⟨fun _ => ?_, fun _ => ⟨fun _ => ?_, fun _ => ⟨fun _ => ?_, fun _ => j1 a w19 hlen (hF.mono (by omega)) h19⟩⟩⟩⟩⟩
    · refine ⟨_, _, _, ld h19 B0 4 _ rfl, ?_⟩
      refine Duo.d h19 fun Z hd hb => (crash_a hd (hF.mono (by omega)) x.keep x.pK x.cK (by omega) (fun w1 h1 => A0.byt.ext h1.chg.ext)).mono fun e w43 ⟨he43, h43⟩ => ⟨he43, ?_⟩
      have h43 : Duo p q (a.crash x.keep) a [] w w43 (blk k15 (raC x) 46 :: (rgX p q S st ++ Y)) := hb _ w43 _ h43
      refine ⟨_, _, _, ld h43 B0 4 _ rfl, ?_⟩
      refine Duo.r h43 fun Z hr hb => (rcrash_r hr (hF.mono (by omega)) x.keep x.pK x.cK (by omega) (fun w1 h1 => A0.byt.ext h1.chg.ext)).mono fun e w44 ⟨he44, h44⟩ => ⟨he44, ?_⟩
      exact j1 _ w44 (by rw [crash_len]; exact hlen) (crash_few _ _ _) (hb _ w44 _ h44)
    · refine Join.intro fun J7 hJ7 => ?_
      have j7 : ∀ s : ByteArray, s.size ≤ 100 → J7 [.string s] w19 := by
        intro s hs
        refine hJ7 _ _ ⟨_, rfl, fun w' => ∃ a b, Duo p q a b [] w w' (blk k15 (raC x) 46 :: (rgX p q S st ++ Y)), D0 h19.drew, x.i, fun w' ⟨a, b, h⟩ => ld h B0 1 _ rfl, ?_⟩
        refine (rfull_spec s (by omega) _).mono fun e w46 ⟨he46, hx46⟩ => ⟨_, he46, D0 (h19.drew.quiet hx46), ?_⟩
        refine Duo.d (h19.drew.quiet hx46) fun Z hd hb => (write_a hd (hF.mono (by omega)) x.i (fullB s)).mono fun e w47 ⟨he47, h47⟩ => ⟨_, he47, ?_⟩
        have h47 : Duo p q (a.write x.i (fullB s)) a [] w w47 (blk k15 (raC x) 46 :: (rgX p q S st ++ Y)) := hb _ w47 _ h47
        refine ⟨D0 h47, x.i, fun w' ⟨a, b, h⟩ => ld h B0 1 _ rfl, ?_⟩
        refine (rfull_spec s (by omega) _).mono fun e w48 ⟨he48, hx48⟩ => ⟨_, he48, D0 (h47.quiet hx48), ?_⟩
        refine Duo.r (h47.quiet hx48) fun Z hr hb => (rwrite_r hr (hF.mono (by omega)) x.i (fullB s)).mono fun e w49 ⟨he49, h49⟩ => ⟨_, he49, bne_t fun hne => absurd rfl hne, bne_f fun _ => ?_⟩
        exact j1 _ w49 (by rw [write_len]; exact hlen) ((hF.write _ _).mono (by omega)) (hb _ w49 _ h49)
      refine ⟨_, _, _, ld h19 B0 2 _ rfl, dec_t fun hgt => ?_, dec_f fun _ => j7 _ (by decide)⟩
      have hsl : 0 < x.s.length := by omega
      obtain ⟨a7, ha7, hcs⟩ := (A0.str.ext h19.ext).get (n := 0) (by omega) (by omega)
      have hz : ∀ b : Addr, b.add ((0 : Int).toNat * 1) = b := fun b => by simp [Addr.add]
      rw [hz] at hcs
      refine ⟨_, _, _, ld h19 B0 2 _ rfl, a7, ha7, by omega, by omega, _, hcs, j7 _ ?_⟩
      refine hs100 _ ?_
      rw [List.getD_eq_getElem?_getD, List.getElem?_eq_getElem (by simpa using hsl)]
      exact List.getElem_mem _
    · refine ⟨fun w' => ∃ a b, Duo p q a b [] w w' (blk k15 (raC x) 46 :: (rgX p q S st ++ Y)), D0 h19.drew, x.i, fun w' ⟨a, b, h⟩ => ld h B0 1 _ rfl, ?_⟩
      refine Duo.d h19.drew fun Z hd hb => (spoil_a hd x.i).mono fun e w50 ⟨he50, h50⟩ => ⟨_, he50, ?_⟩
      have h50 : Duo p q (a.spoil x.i) a [] w w50 (blk k15 (raC x) 46 :: (rgX p q S st ++ Y)) := hb _ w50 _ h50
      refine ⟨D0 h50, x.i, fun w' ⟨a, b, h⟩ => ld h B0 1 _ rfl, ?_⟩
      refine Duo.r h50 fun Z hr hb => (rspoil_r hr x.i).mono fun e w51 ⟨he51, h51⟩ => ⟨_, he51, bne_t fun hne => absurd rfl hne, bne_f fun _ => ?_⟩
      exact j1 _ w51 (by rw [spoil_len]; exact hlen) ((hF.spoil _).mono (by omega)) (hb _ w51 _ h51)
    · refine Duo.d h19 fun Z hd hb => (die_a hd).mono fun e w52 ⟨he52, h52⟩ => ⟨he52, _, rfl, ?_⟩
      have h52 : Duo p q a.die a [] w w52 (blk k15 (raC x) 46 :: (rgX p q S st ++ Y)) := hb _ w52 _ h52
      refine Duo.r h52 fun Z hr hb => rgone hr fun w53 h53 => ?_
      exact j1 a.die w53 hlen (hF.mono (by omega)) (hb _ w53 _ h53)
    · refine (duo_format h19 hF (by omega)).mono fun e w54 ⟨he54, hc⟩ => ⟨_, he54, hc.mono fun e w55 ⟨he55, h55⟩ => ⟨_, he55, bne_t fun hne => absurd rfl hne, bne_f fun _ => ?_⟩⟩
      exact j1 _ w55 (by rw [formatF_len]; exact hlen) (formatF_few hF (by omega)) h55
  exact ⟨_, ld h19 B0 0 _ rfl, fun _ => jA true, fun _ => ⟨_, ld h19 B0 0 _ rfl, fun _ => jA true, fun _ => ⟨_, ld h19 B0 0 _ rfl, jA _⟩⟩⟩
end Go.Proofs.YtbecjmfcppginaaGreat
end
section
/-! A law's row: slices of structs. -/
namespace Go.Sh
open Go.ChangeShapes Go.WideShapes Go.ChangeAt Go.RowKit
set_option linter.unusedVariables false
mutual
/-- the one-cell parts of a type: which type, and where -/
def leaves (P : Program) : Nat → TypeId → Option (List (TypeId × Nat × Nat))
  | 0, _ => none
  | d + 1, t => match P.underlying t with
    | some (.struct fs) => leavesF P d (P.cellsOf t) fs.toList
    | some (.array n e) => if n ≤ 12 && n * P.cellsOf e == P.cellsOf t then (leaves P d e).map fun l => (List.range n).flatMap fun i => l.map fun x => (x.1, i * P.cellsOf e + x.2.1, x.2.2) else none
    | some _ => some [(t, 0, P.cellsOf t)]
    | none => none
def leavesF (P : Program) : Nat → Nat → List Field → Option (List (TypeId × Nat × Nat))
  | _, _, [] => some []
  | 0, _, _ => none
  | d + 1, C, f :: fs => if f.offset + P.cellsOf f.type ≤ C then match leaves P d f.type, leavesF P d C fs with
    | some a, some b => some (a.map (fun x => (x.1, f.offset + x.2.1, x.2.2)) ++ b)
    | _, _ => none else none
end
section
variable {P : Program} {H : Type} {enc : TypeId × Value → H} {w : World} {sp : Nat → Bool}
def LeafAt (enc : TypeId × Value → H) (P : Program) (w : World) (sp : Nat → Bool) (cs : List Value) (x : TypeId × Nat × Nat) : Prop := x.2.1 + x.2.2 ≤ cs.length ∧ ∃ n y, DataW.trod enc P w 0 sp true n x.1 ((cs.drop x.2.1).take x.2.2) = some y
theorem LeafAt.sub {cs : List Value} {o n : Nat} {x : TypeId × Nat × Nat} (hn : o + n ≤ cs.length) (h : LeafAt enc P w sp ((cs.drop o).take n) x) : LeafAt enc P w sp cs (x.1, o + x.2.1, x.2.2) := by
  obtain ⟨h1, m, y, h2⟩ := h
  rw [List.length_take, List.length_drop] at h1
  refine ⟨?_, m, y, ?_⟩
  · show o + x.2.1 + x.2.2 ≤ _; omega
  rw [List.drop_take, List.drop_drop, List.take_take] at h2
  show DataW.trod enc P w 0 sp true m x.1 ((cs.drop (o + x.2.1)).take x.2.2) = some y
  rwa [show min x.2.2 (n - x.2.1) = x.2.2 by omega] at h2
mutual
theorem leaves_trod : ∀ (d : Nat) (t : TypeId) (l : List (TypeId × Nat × Nat)) (cs : List Value) (n : Nat) (y : DataW H × List MemPlace), leaves P d t = some l → cs.length = P.cellsOf t → DataW.trod enc P w 0 sp true n t cs = some y → ∀ x ∈ l, LeafAt enc P w sp cs x
  | 0, _, _, _, _, _, h, _, _ => by cases h
  | d + 1, t, l, cs, n, y, h, hl, hd => by
    unfold leaves at h
    split at h
    · rename_i fs hu
      obtain ⟨xs, m, _, _, _, hlen, hf⟩ := DataW.trod_struct hu hd
      exact leavesF_trod d (P.cellsOf t) fs.toList l cs m h hl fun f hm => by
        obtain ⟨i, hi⟩ := List.mem_iff_getElem?.1 hm
        have h1 := hf i f (by simpa using hi)
        have : i < xs.length := by rw [hlen]; have := (List.getElem?_eq_some_iff.1 hi).1; simpa using this
        rw [List.getElem?_eq_getElem this] at h1
        exact ⟨_, h1⟩
    · rename_i k e hu
      split at h
      · rename_i hc
        simp only [Bool.and_eq_true, decide_eq_true_eq, beq_iff_eq] at hc
        simp only [Option.map_eq_some_iff] at h
        obtain ⟨le, he, rfl⟩ := h
        obtain ⟨xs, m, _, _, _, hlen, hf⟩ := DataW.trod_array hu hd
        intro x hx
        simp only [List.mem_flatMap, List.mem_range, List.mem_map] at hx
        obtain ⟨i, hi, x0, hx0, rfl⟩ := hx
        have h1 := hf i hi
        rw [List.getElem?_eq_getElem (by omega)] at h1
        have hb : i * P.cellsOf e + P.cellsOf e ≤ cs.length := by
          rw [hl, ← hc.2]
          have : (i + 1) * P.cellsOf e ≤ k * P.cellsOf e := Nat.mul_le_mul_right _ hi
          rw [Nat.add_mul, Nat.one_mul] at this
          exact this
        exact LeafAt.sub hb (leaves_trod d e le _ m _ he (by rw [List.length_take, List.length_drop]; omega) h1 x0 hx0)
      · cases h
    · rename_i hu1 hu2 hu3
      cases h
      intro x hx
      obtain rfl := List.mem_singleton.1 hx
      refine ⟨by simp [hl], n, y, ?_⟩
      rw [List.drop_zero, ← hl, List.take_length]
      exact hd
    · cases h
theorem leavesF_trod : ∀ (d C : Nat) (fs : List Field) (l : List (TypeId × Nat × Nat)) (cs : List Value) (n : Nat), leavesF P d C fs = some l → cs.length = C → (∀ f ∈ fs, ∃ y, DataW.trod enc P w 0 sp true n f.type ((cs.drop f.offset).take (P.cellsOf f.type)) = some y) → ∀ x ∈ l, LeafAt enc P w sp cs x
  | _, _, [], l, _, _, h, _, _ => by
    cases l with
    | nil => intro x hx; cases hx
    | cons a l => unfold leavesF at h; cases h
  | 0, _, _ :: _, _, _, _, h, _, _ => by cases h
  | d + 1, C, f :: fs, l, cs, n, h, hl, hf => by
    unfold leavesF at h
    split at h
    · rename_i hc
      split at h
      · rename_i a b ha hb
        cases h
        intro x hx
        rcases List.mem_append.1 hx with hx | hx
        · obtain ⟨x0, hx0, rfl⟩ := List.mem_map.1 hx
          obtain ⟨y, hy⟩ := hf f List.mem_cons_self
          exact LeafAt.sub (by omega) (leaves_trod d f.type a _ n y ha (by rw [List.length_take, List.length_drop]; omega) hy x0 hx0)
        · exact leavesF_trod d C fs b cs n hb hl (fun g hg => hf g (List.mem_cons_of_mem _ hg)) x hx
      · cases h
    · cases h
end
theorem leaf_one {cs : List Value} {t : TypeId} {i : Nat} (h : LeafAt enc P w sp cs (t, i, 1)) : ∃ v n y, cs[i]? = some v ∧ DataW.trod enc P w 0 sp true n t [v] = some y := by
  obtain ⟨h1, n, y, h2⟩ := h
  have hi : i < cs.length := by simp only at h1; omega
  refine ⟨cs[i], n, y, List.getElem?_eq_getElem hi, ?_⟩
  have : (cs.drop i).take 1 = [cs[i]] := by
    rw [List.drop_eq_getElem_cons hi]; rfl
  rwa [this] at h2
theorem leaf_int {cs : List Value} {t : TypeId} {i : Nat} {k : IntKind} (ht : P.underlying t = some (.int k)) (h : LeafAt enc P w sp cs (t, i, 1)) : ∃ n : Int, cs[i]? = some (.int k n) ∧ (Lit.int k n).wf = true := by
  obtain ⟨v, n, y, h1, h2⟩ := leaf_one h
  obtain ⟨m, h3, _, h4⟩ := DataW.trod_int ht h2
  obtain rfl : v = .int k m := by simpa using h3
  exact ⟨m, h1, h4⟩
theorem leaf_bool {cs : List Value} {t : TypeId} {i : Nat} (ht : P.underlying t = some .bool) (h : LeafAt enc P w sp cs (t, i, 1)) : ∃ b : Bool, cs[i]? = some (.bool b) := by
  obtain ⟨v, n, y, h1, h2⟩ := leaf_one h
  obtain ⟨m, h3, _⟩ := DataW.trod_bool ht h2
  obtain rfl : v = .bool m := by simpa using h3
  exact ⟨m, h1⟩
theorem leaf_str {cs : List Value} {t : TypeId} {i : Nat} (ht : P.underlying t = some .string) (h : LeafAt enc P w sp cs (t, i, 1)) : ∃ s : ByteArray, cs[i]? = some (.string s) ∧ s.size ≤ maxLen := by
  obtain ⟨v, n, y, h1, h2⟩ := leaf_one h
  obtain ⟨m, h3, _, h4⟩ := DataW.trod_string ht h2
  obtain rfl : v = .string m := by simpa using h3
  exact ⟨m, h1, h4⟩
/-- bytes that a slice's value shows -/
theorem trod_u8s {t e : TypeId} {v : Value} {n : Nat} {y : DataW H × List MemPlace} (ht : P.underlying t = some (.slice e)) (he : P.underlying e = some (.int .u8)) (hc : P.cellsOf e = 1) (hf : DataW.trod enc P w 0 (fun _ => true) true n t [v] = some y) :
    ∃ (p : Option Addr) (c : Nat) (l : List UInt8), v = .slice p l.length c ∧ (l ≠ [] → ∃ a, p = some a) ∧ (∀ a, p = some a → ∀ j (s : UInt8), l[j]? = some s → w.cell? (a.add j) = some (.int .u8 s.toNat)) := by
  rcases open_ints ht he hc hf with ⟨h0, _⟩ | ⟨a, len, cap, ss, h0, h1, h2, h3, h4, h5, h6, h7⟩
  · obtain rfl : v = .slice none 0 0 := by simpa using h0
    exact ⟨none, 0, [], rfl, fun h => absurd rfl h, (fun a ha => by cases ha)⟩
  · obtain rfl : v = .slice (some a) len cap := by simpa using h0
    simp only [if_true] at h4
    refine ⟨some a, cap, (ss.take len).map fun n => UInt8.ofNat n.toNat, by rw [List.length_map, List.length_take]; congr 1; omega, fun _ => ⟨a, rfl⟩, fun a' ha' j s hs => ?_⟩
    cases ha'
    rw [List.getElem?_map, List.getElem?_take] at hs
    split at hs
    · cases hz : ss[j]? with
      | none => rw [hz] at hs; cases hs
      | some z =>
        rw [hz] at hs
        simp only [Option.map_some, Option.some.injEq] at hs
        have hj := (List.getElem?_eq_some_iff.1 hz).1
        have hw := u8_of (h7 z (List.mem_of_getElem? hz))
        rw [h6 j hj, List.getD_eq_getElem?_getD, hz]
        have : ((UInt8.ofNat z.toNat).toNat : Int) = z := by simp; omega
        rw [← hs, this]; rfl
    · cases hs
theorem leaf_u8s {cs : List Value} {t e : TypeId} {i : Nat} (ht : P.underlying t = some (.slice e)) (he : P.underlying e = some (.int .u8)) (hc : P.cellsOf e = 1) (h : LeafAt enc P w (fun _ => true) cs (t, i, 1)) :
    ∃ (p : Option Addr) (c : Nat) (l : List UInt8), cs[i]? = some (.slice p l.length c) ∧ (l ≠ [] → ∃ a, p = some a) ∧ (∀ a, p = some a → ∀ j (s : UInt8), l[j]? = some s → w.cell? (a.add j) = some (.int .u8 s.toNat)) := by
  obtain ⟨v, n, y, h1, h2⟩ := leaf_one h
  obtain ⟨p, c, l, rfl, h3⟩ := trod_u8s ht he hc h2
  exact ⟨p, c, l, h1, h3⟩
theorem cells_get {w : World} {a : Addr} {n : Nat} {cs : List Value} (h : w.cells? 0 a n = some cs) : cs.length = n ∧ ∀ k v, cs[k]? = some v → w.cell? (a.add k) = some v := by
  unfold World.cells? at h
  split at h
  · have hl : cs.length = n := by simpa using mapM_some_length h
    refine ⟨hl, fun k v hv => ?_⟩
    have hk : k < n := by have := (List.getElem?_eq_some_iff.1 hv).1; omega
    have h1 := mapM_some_get h k
    rw [hv] at h1
    simpa [hk] using h1
  · cases h
/-- a slice of structs: the cells of each one, and its parts -/
theorem open_rows {t e : TypeId} {v : Value} {d : DataW H} {ps : List MemPlace} {r : Reach} {b0 : Nat} {l : List (TypeId × Nat × Nat)} {dep C : Nat} (ht : P.underlying t = some (.slice e)) (hl : leaves P dep e = some l) (hC : P.cellsOf e = C) (hval : Value.okWide P w r b0 t v) (hd : DataW.Trod enc P w 0 (fun _ => true) true t v d ps) :
    ∃ (p : Option Addr) (len c : Nat), v = .slice p len c ∧ (len ≠ 0 → ∃ a, p = some a) ∧ ∀ a, p = some a → ∀ j, j < len → ∃ cs : List Value, cs.length = C ∧ (∀ k u, cs[k]? = some u → w.cell? ((a.add (j * C)).add k) = some u) ∧ ∀ x ∈ l, LeafAt enc P w (fun _ => true) cs x := by
  subst hC
  obtain ⟨a0, len, cap, rfl⟩ := okWide_slice ht hval
  obtain ⟨fuel, hf⟩ := hd
  rcases DataW.trod_slice ht hf with ⟨h0, _⟩ | ⟨a, len', cap', elems, rest, n, _, h0, _, hb, hle, hm, hlen, hel, _⟩
  · have : a0 = none ∧ len = 0 ∧ cap = 0 := by simpa [Value.cells] using h0
    obtain ⟨rfl, rfl, rfl⟩ := this
    exact ⟨none, 0, 0, rfl, fun h => absurd rfl h, (fun a ha => by cases ha)⟩
  · have : a0 = some a ∧ len = len' ∧ cap = cap' := by simpa [Value.cells] using h0
    obtain ⟨rfl, rfl, rfl⟩ := this
    refine ⟨some a, len, cap, rfl, fun _ => ⟨a, rfl⟩, fun a' ha' j hj => ?_⟩
    cases ha'
    have h1 := hel j hj
    rw [List.getElem?_eq_getElem (by omega)] at h1
    simp only [Option.bind_eq_some_iff] at h1
    obtain ⟨cs, hcs, ht2⟩ := h1
    obtain ⟨h2, h3⟩ := cells_get hcs
    exact ⟨cs, h2, h3, leaves_trod dep e l cs n _ hl h2 ht2⟩
theorem list_choice {α : Type} {Q : Nat → α → Prop} : ∀ (n : Nat), (∀ j, j < n → ∃ x, Q j x) → ∃ l : List α, l.length = n ∧ ∀ j x, l[j]? = some x → Q j x
  | 0, _ => ⟨[], rfl, fun j x h => by simp at h⟩
  | n + 1, h => by
    obtain ⟨l, hl, hq⟩ := list_choice n fun j hj => h j (by omega)
    obtain ⟨x, hx⟩ := h n (by omega)
    refine ⟨l ++ [x], by simp [hl], fun j y hy => ?_⟩
    rcases Nat.lt_or_ge j l.length with hj | hj
    · rw [List.getElem?_append_left hj] at hy; exact hq j y hy
    · rw [List.getElem?_append_right hj] at hy
      have : j = n := by have := (List.getElem?_eq_some_iff.1 hy).1; simp at this; omega
      subst this
      rw [hl, Nat.sub_self] at hy
      obtain rfl : x = y := by simpa using hy
      exact hx
end
end Go.Sh
end
section
/-! A law's row: bytes as numbers. -/
namespace Go.Proofs.YtbecjmfcppginaaGreat
open Go.ChangeShapes Go.WideShapes Go.ChangeAt Go.RowKit Go.Sh
theorem u8_of {a : Int} (h : (Lit.int .u8 a).wf = true) : 0 ≤ a ∧ a < 256 := by
  simp [Lit.wf, IntKind.min, IntKind.max, IntKind.bits, IntKind.signed] at h
  omega
end Go.Proofs.YtbecjmfcppginaaGreat
end
section
/-! A law's row: acts of rings. -/
namespace Go.Sh
open Go.ChangeShapes Go.WideShapes Go.ChangeAt Go.RowKit
section
variable {H : Type} {enc : TypeId × Value → H} {P : Program} {w : World}
theorem leaf_strs {cs : List Value} {t e : TypeId} {i : Nat} (ht : P.underlying t = some (.slice e)) (he : P.underlying e = some .string) (hc : P.cellsOf e = 1) (h : LeafAt enc P w (fun _ => true) cs (t, i, 1)) :
    ∃ (p : Option Addr) (c : Nat) (l : List ByteArray), cs[i]? = some (.slice p l.length c) ∧ (l ≠ [] → ∃ a, p = some a) ∧ (∀ a, p = some a → ∀ j s, l[j]? = some s → w.cell? (a.add j) = some (.string s)) := by
  obtain ⟨v, n, y, h1, hf⟩ := leaf_one h
  rcases open_strings ht he hc hf with ⟨h0, -⟩ | ⟨a, len, cap, ss, h0, _, h2, h3, h4, h5, h6, h7⟩
  · obtain rfl : v = .slice none 0 0 := by simpa using h0
    exact ⟨none, 0, [], h1, fun h => absurd rfl h, (fun a ha => by cases ha)⟩
  · obtain rfl : v = .slice (some a) len cap := by simpa using h0
    simp only [if_true] at h4
    refine ⟨some a, cap, ss.take len, by rw [h1, List.length_take]; congr 2; omega, fun _ => ⟨a, rfl⟩, fun a' ha' j s hs => ?_⟩
    cases ha'
    rw [List.getElem?_take] at hs
    split at hs
    · have hj := (List.getElem?_eq_some_iff.1 hs).1
      rw [h6 j hj, List.getD_eq_getElem?_getD, hs]; rfl
    · cases hs
theorem leaf_rows {cs : List Value} {t e : TypeId} {i : Nat} {l : List (TypeId × Nat × Nat)} {dep C : Nat} (ht : P.underlying t = some (.slice e)) (hl : leaves P dep e = some l) (hC : P.cellsOf e = C) (h : LeafAt enc P w (fun _ => true) cs (t, i, 1)) :
    ∃ (p : Option Addr) (len c : Nat), cs[i]? = some (.slice p len c) ∧ (len ≠ 0 → ∃ a, p = some a) ∧ ∀ a, p = some a → ∀ j, j < len → ∃ cs : List Value, cs.length = C ∧ (∀ k u, cs[k]? = some u → w.cell? ((a.add (j * C)).add k) = some u) ∧ ∀ x ∈ l, LeafAt enc P w (fun _ => true) cs x := by
  subst hC
  obtain ⟨v, n, y, h1, hf⟩ := leaf_one h
  rcases DataW.trod_slice ht hf with ⟨h0, _⟩ | ⟨a, len, cap, elems, rest, n, _, h0, _, hb, hle, hm, hlen, hel, _⟩
  · obtain rfl : v = .slice none 0 0 := by simpa using h0
    exact ⟨none, 0, 0, h1, fun h => absurd rfl h, (fun a ha => by cases ha)⟩
  · obtain rfl : v = .slice (some a) len cap := by simpa using h0
    refine ⟨some a, len, cap, h1, fun _ => ⟨a, rfl⟩, fun a' ha' j hj => ?_⟩
    cases ha'
    have h1 := hel j hj
    rw [List.getElem?_eq_getElem (by omega)] at h1
    simp only [Option.bind_eq_some_iff] at h1
    obtain ⟨cs, hcs, ht2⟩ := h1
    obtain ⟨h2, h3⟩ := cells_get hcs
    exact ⟨cs, h2, h3, leaves_trod dep e l cs n _ hl h2 ht2⟩
end
end Go.Sh
namespace Go.Proofs.YtbecjmfcppginaaGreat
open Go.ChangeShapes Go.WideShapes Go.ChangeAt Go.RowKit Go.Sh
set_option linter.unusedVariables false
set_option maxRecDepth 20000
theorem u16_of {a : Int} (h : (Lit.int .u16 a).wf = true) : 0 ≤ a ∧ a < 65536 := by
  simp [Lit.wf, IntKind.min, IntKind.max, IntKind.bits, IntKind.signed] at h
  omega
theorem leaf_parts {H : Type} {enc : TypeId × Value → H} {w : World} {cs : List Value} {i : Nat} (h : LeafAt enc Tryz.prog w (fun _ => true) cs (43, i, 1)) :
    ∃ (p : Option Addr) (c : Nat) (l : List RP), cs[i]? = some (.slice p l.length c) ∧ partsAt w p l := by
  have hlv : leaves Tryz.prog 20 71 = some [(3, 0, 1), (3, 1, 1), (9, 2, 1)] := by kernel_rfl
  obtain ⟨p, len, c, hv, hp, hat⟩ := leaf_rows (e := 71) (by kernel_rfl) hlv (C := 3) (by kernel_rfl) h
  have key : ∀ j, j < len → ∃ x : RP, ∀ a, p = some a → ∀ (m : Nat) (v : Value), (rpC x)[m]? = some v → w.cell? ((a.add (j * 3)).add m) = some v := by
    intro j hj
    cases hpa : p with
    | none => exact ⟨⟨0, 0, []⟩, fun a ha => by cases ha⟩
    | some a =>
      obtain ⟨cs, hl, hc, hx⟩ := hat a hpa j hj
      obtain ⟨k, e0, _⟩ := leaf_int (k := .i64) (by kernel_rfl) (hx (3, 0, 1) (by simp))
      obtain ⟨o, e1, _⟩ := leaf_int (k := .i64) (by kernel_rfl) (hx (3, 1, 1) (by simp))
      obtain ⟨s, e2, _⟩ := leaf_str (by kernel_rfl) (hx (9, 2, 1) (by simp))
      refine ⟨⟨k, o, s.data.toList⟩, fun a' ha' m v hv => ?_⟩
      cases ha'
      refine hc m v ?_
      have hm : m < 3 := (Array.getElem?_eq_some_iff.1 hv).1
      match m, hm with
      | 0, _ => exact e0.trans hv
      | 1, _ => exact e1.trans hv
      | 2, _ => exact e2.trans hv
  obtain ⟨l, hll, hq⟩ := list_choice len key
  exact ⟨p, c, l, by rw [hv, hll], fun hn => hp fun h0 => hn (List.eq_nil_of_length_eq_zero (by omega)), fun a ha j x hx => hq j x hx a ha⟩
theorem open_racts {H : Type} {enc : TypeId × Value → H} {w : World} {v : Value} {d : DataW H} {ps : List MemPlace} {r : Reach} {b0 : Nat} (hval : Value.okWide Tryz.prog w r b0 23 v) (hd : DataW.Trod enc Tryz.prog w 0 (fun _ => true) true 23 v d ps) :
    ∃ (p : Option Addr) (c : Nat) (l : List RAct), v = .slice p l.length c ∧ ractsAt w p l := by
  have hlv : leaves Tryz.prog 20 46 = some [(3, 0, 1), (3, 1, 1), (42, 2, 1), (43, 3, 1), (44, 4, 1)] := by kernel_rfl
  obtain ⟨p, len, c, rfl, hp, hat⟩ := open_rows (e := 46) (by kernel_rfl) hlv (C := 5) (by kernel_rfl) hval hd
  have key : ∀ j, j < len → ∃ x : RAct, ∀ a, p = some a → RActAt w (a.add (j * 5)) x := by
    intro j hj
    cases hpa : p with
    | none => exact ⟨⟨0, 0, [], [], [], none, 0, none, 0, none, 0⟩, fun a ha => by cases ha⟩
    | some a =>
      obtain ⟨cs, hl, hc, hx⟩ := hat a hpa j hj
      obtain ⟨k, e0, _⟩ := leaf_int (k := .i64) (by kernel_rfl) (hx (3, 0, 1) (by simp))
      obtain ⟨i, e1, _⟩ := leaf_int (k := .i64) (by kernel_rfl) (hx (3, 1, 1) (by simp))
      obtain ⟨pS, cS, s, e2, hS1, hS2⟩ := leaf_strs (e := 9) (by kernel_rfl) (by kernel_rfl) (by kernel_rfl) (hx (42, 2, 1) (by simp))
      obtain ⟨pP, cP, parts, e3, hP⟩ := leaf_parts (hx (43, 3, 1) (by simp))
      obtain ⟨pK, cK, keep, e4, hK1, hK2⟩ := leaf_u8s (e := 5) (by kernel_rfl) (by kernel_rfl) (by kernel_rfl) (hx (44, 4, 1) (by simp))
      refine ⟨⟨k, i, s, parts, keep, pS, cS, pP, cP, pK, cK⟩, fun a' ha' => ?_⟩
      cases ha'
      refine ⟨fun m v hv => hc m v ?_, ⟨hS1, hS2⟩, hP, ⟨hK1, hK2⟩⟩
      have hm : m < 5 := (Array.getElem?_eq_some_iff.1 hv).1
      match m, hm with
      | 0, _ => exact e0.trans hv
      | 1, _ => exact e1.trans hv
      | 2, _ => exact e2.trans hv
      | 3, _ => exact e3.trans hv
      | 4, _ => exact e4.trans hv
  obtain ⟨l, hll, hq⟩ := list_choice len key
  exact ⟨p, c, l, by rw [hll], fun hn => hp fun h0 => hn (List.eq_nil_of_length_eq_zero (by omega)), fun a ha j x hx => hq j x hx a ha⟩
end Go.Proofs.YtbecjmfcppginaaGreat
end
