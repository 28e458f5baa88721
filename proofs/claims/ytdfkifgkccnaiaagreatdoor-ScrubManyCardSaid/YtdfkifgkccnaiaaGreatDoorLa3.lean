import Derived.Test.YtdfkifgkccnaiaaGreatDoorSa1
/-! refill: Make; what is filled where P and Q are lost. -/
namespace Go.Proofs.YtdfkifgkccnaiaaGreatDoor
open Go.Sh Go.RowKit
set_option linter.unusedVariables false
set_option linter.unusedSimpArgs false
set_option maxRecDepth 20000
set_option maxHeartbeats 2000000
def makeF (L : List Txt) : List Txt := L ++ [sumT L, qT L]
theorem makeF_len (L : List Txt) : (makeF L).length = L.length + 2 := by simp [makeF]
theorem makeF_short {L : List Txt} (hS : Short L) : Short (makeF L) := fun x hx => by
  rcases List.mem_append.1 hx with hx | hx
  · exact hS x hx
  · exact short2 (sAcc_len hS _) (qAcc_len hS _) x hx
theorem make_spec {L : List Txt} (hn : L.length ≤ 200) (hS : Short L) {p : Option Addr} {c : Nat} (hcl : L.length ≤ c) {w : World} (hp : strsL w p L) :
    Calls Tryz.prog 10 #[.slice p L.length c] w fun e w' => (OkM (makeF L) [] ∧ ∃ b cap, e = .returned (.tuple #[.slice (some ⟨b, 0, none⟩) (L.length + 2) cap, .int .i64 0]) ∧ T [] w w' [rowP 9 1 (some b) (L.length + 2) cap (txts (makeF L))]) ∨
      (¬ OkM (makeF L) [] ∧ e = .returned (.tuple #[.slice none 0 0, .int .i64 1]) ∧ Ext w w') := by
  refine (refill_Make_calls (R := fun v w' => (OkM (makeF L) [] ∧ ∃ b cap, v = .tuple #[.slice (some ⟨b, 0, none⟩) (L.length + 2) cap, .int .i64 0] ∧ T [] w w' [rowP 9 1 (some b) (L.length + 2) cap (txts (makeF L))]) ∨
      (¬ OkM (makeF L) [] ∧ v = .tuple #[.slice none 0 0, .int .i64 1] ∧ Ext w w')) ?_).mono fun e w' ⟨v, he, h⟩ => by
    rcases h with ⟨h1, b, cap, hv, h3⟩ | ⟨h1, hv, h3⟩
    · exact .inl ⟨h1, b, cap, by rw [he, hv], h3⟩
    · exact .inr ⟨h1, by rw [he, hv], h3⟩
  unfold refill_Make
  refine (clone_spec (by omega) (T.nil w) hp).mono fun e w1 ⟨g, cap, he, h1⟩ => ⟨_, _, _, he, ?_⟩
  refine (p_spec hS (by omega) (hp.ext h1.chg.ext)).mono fun e w2 ⟨he, hx2⟩ => ⟨_, he, ?_⟩
  have h2 := h1.quiet hx2
  refine (q_spec hS hn hcl (hp.ext h2.chg.ext)).mono fun e w3 ⟨he, hx3⟩ => ⟨_, he, ?_⟩
  refine Alloc.t (h2.quiet hx3) fun k12 w4 h4 => ?_
  have h4 : T [] w w4 (rowP 9 1 (some k12) 2 2 (txts [sumT L, qT L]) :: [rowP 9 1 g L.length cap (txts L)]) := blk_row h4 rfl rfl (by decide)
  obtain ⟨g', cap', w5, hr, h5⟩ := append_t (P := Tryz.prog) (t := 22) (ty := 22) (e := 9) (i := Tryz.t9) (z := .string (ByteArray.mk #[])) (size := 1) #[false, false] (by kernel_rfl) (by kernel_rfl) (by kernel_rfl) (by kernel_rfl) (by rfl)
    h4 (.tail .head) (a := ⟨k12, 0, none⟩) (m := 2) (c := 2) (news := txts [sumT L, qT L]) rfl (fun j u hu => by
      rw [addr_add, Nat.zero_add]
      exact rowP.cell (h4.says List.mem_cons_self) hu) (fun u hu => by
      obtain ⟨x, _, rfl⟩ := List.mem_map.1 hu
      rfl) (by simp only [maxLen]; omega) (by
      have : (Tryz.t9).bytes = 16 := by kernel_rfl
      rw [this]; omega)
  have em : txts L ++ txts [sumT L, qT L] = txts (makeF L) := by simp [txts, makeF]
  rw [em] at h5
  obtain ⟨b, rfl⟩ : ∃ b, g' = some b := rowP.pos (h5.says List.mem_cons_self) (by omega)
  refine ⟨_, _, _, w5, hr, ?_⟩
  have hst := T.rowS h5 (b := b) (L := makeF L) (by repeat (first | exact List.Mem.head _ | refine List.Mem.tail _ ?_))
  have hm := may_spec (L := makeF L) (lost := []) (c := cap') (d := 0) (by simp) (by rw [makeF_len]; omega) (makeF_short hS) hst.1 (q := none) ⟨fun h => absurd rfl h, fun a ha => by cases ha⟩
  rw [makeF_len] at hm
  refine hm.mono fun e w6 ⟨n, he, hx6, hok, hno⟩ => ⟨n, he, bne_t fun hn => ?_, bne_f fun hn => ?_⟩
  · have hk : ¬ OkM (makeF L) [] := fun hk => hn (by rw [hok hk]; rfl)
    exact .inr ⟨hk, by rw [hno hk], (h5.quiet hx6).chg.ext⟩
  · have hk : OkM (makeF L) [] := Classical.byContradiction fun h => by have := hno h; omega
    exact .inl ⟨hk, b, cap', rfl, T.dropAt (h5.quiet hx6) (.tail .head)⟩
/-- all columns are of this length -/
def AllLen (L : List Txt) (m : Nat) : Prop := ∀ j, j < L.length → (L.getD j []).length = m
theorem sAcc_all {L : List Txt} {m : Nat} (h : AllLen L m) : ∀ k, 0 < k → k ≤ L.length → (sAcc L k).length = m
  | 1, _, h1 => by simp only [sAcc, xorT_len]; rw [h 0 (by omega)]; simp
  | k + 2, _, h2 => by
    have := sAcc_all h (k + 1) (by omega) (by omega)
    simp only [sAcc, xorT_len] at this ⊢
    rw [h (k + 1) (by omega)]; omega
theorem qAcc_all {L : List Txt} {m : Nat} (h : AllLen L m) : ∀ k, 0 < k → k ≤ L.length → (qAcc L k).length = m
  | 1, _, h1 => by simp only [qAcc, xorT_len, timesL_len]; rw [h 0 (by omega)]; simp
  | k + 2, _, h2 => by
    have := qAcc_all h (k + 1) (by omega) (by omega)
    simp only [qAcc, xorT_len, timesL_len] at this ⊢
    rw [h (k + 1) (by omega)]; omega
theorem makeF_get (L : List Txt) (j : Nat) : (makeF L).getD j [] = if j < L.length then L.getD j [] else if j = L.length then sumT L else if j = L.length + 1 then qT L else [] := by
  unfold makeF
  simp only [List.getD_eq_getElem?_getD]
  by_cases h : j < L.length
  · rw [if_pos h, List.getElem?_append_left h]
  rw [if_neg h, List.getElem?_append_right (by omega)]
  by_cases h1 : j = L.length
  · subst h1; rw [if_pos rfl]; simp
  rw [if_neg h1]
  by_cases h2 : j = L.length + 1
  · subst h2; rw [if_pos rfl]; simp
  rw [if_neg h2, List.getElem?_eq_none (by simp; omega)]; rfl
theorem makeF_all {L : List Txt} {m : Nat} (h : AllLen L m) (h0 : 0 < L.length) : AllLen (makeF L) m := fun j hj => by
  rw [makeF_len] at hj
  rw [makeF_get]
  split
  · exact h j (by assumption)
  · split
    · exact sAcc_all h _ h0 (Nat.le_refl _)
    · rw [if_pos (by omega)]; exact qAcc_all h _ h0 (Nat.le_refl _)
theorem makeF_ok {L : List Txt} {m : Nat} (h : AllLen L m) (hm : m ≤ 4096) (h2 : 2 ≤ L.length) (h8 : L.length ≤ 8) : OkM (makeF L) [] :=
  ⟨by rw [makeF_len]; omega, by rw [makeF_len]; omega, by simp, by simp, m, hm, fun j hj _ => makeF_all h (by omega) j hj⟩
theorem take_get (L : List Txt) (n j : Nat) (h : j < n) : (L.take n).getD j [] = L.getD j [] := by simp [List.getD, h]
theorem list_ext {A B : List Txt} (h : A.length = B.length) (hg : ∀ j, j < A.length → A.getD j [] = B.getD j []) : A = B := by
  apply List.ext_getElem h
  intro j h1 h2
  have := hg j h1
  simpa [List.getD, h1, h2] using this
theorem getD_set (L : List Txt) (i j : Nat) (x : Txt) (hi : i < L.length) : (L.set i x).getD j [] = if i = j then x else L.getD j [] := by
  simp only [List.getD_eq_getElem?_getD, List.getElem?_set]
  by_cases h : i = j
  · rw [if_pos h, if_pos hi, if_pos h]; rfl
  · rw [if_neg h, if_neg h]
theorem fill_none (R : List Txt) : fillF R [] = R := by
  have : srt [] = [] := List.eq_nil_of_length_eq_zero (srt_len [])
  unfold fillF fillS
  rw [this]
  show fillK (kindA _ [] 0 0) (kindA _ [] 1 0) _ _ _ = _
  have e : ∀ n j, kindA n [] j 0 = 0 := fun n j => by unfold kindA; rw [if_neg (by simp)]
  rw [e, e]
  rfl
/-- P and Q lost: told anew of the data -/
theorem fill_pq {R : List Txt} (h4 : 4 ≤ R.length) : fillF R [((R.length - 2 : Nat) : Int), ((R.length - 1 : Nat) : Int)] = makeF (R.take (R.length - 2)) := by
  obtain ⟨e1, _⟩ := srt_two (a := ((R.length - 2 : Nat) : Int)) (b := ((R.length - 1 : Nat) : Int)) (by omega)
  unfold fillF
  rw [e1]
  unfold fillS
  have k0 : kindA (R.length - 2) [((R.length - 2 : Nat) : Int), ((R.length - 1 : Nat) : Int)] 0 2 = 2 := by
    unfold kindA; rw [if_pos (by simp)]
    show kindF _ ((R.length - 2 : Nat) : Int) = 2
    unfold kindF; rw [if_neg (by omega), if_pos rfl]
  have k1 : kindA (R.length - 2) [((R.length - 2 : Nat) : Int), ((R.length - 1 : Nat) : Int)] 1 2 = 3 := by
    unfold kindA; rw [if_pos (by simp)]
    show kindF _ ((R.length - 1 : Nat) : Int) = 3
    unfold kindF; rw [if_neg (by omega), if_neg (by omega)]
  show fillK (kindA (R.length - 2) _ 0 2) (kindA (R.length - 2) _ 1 2) (zerL R _ (lastLen R _ R.length) 2) _ _ = _
  rw [k0, k1]
  generalize lastLen R _ R.length = z
  have hZ : zerL R [((R.length - 2 : Nat) : Int), ((R.length - 1 : Nat) : Int)] z 2 = (R.set (R.length - 2) (List.replicate z 0)).set (R.length - 1) (List.replicate z 0) := rfl
  rw [hZ]
  generalize hZZ : (R.set (R.length - 2) (List.replicate z 0)).set (R.length - 1) (List.replicate z 0) = Z
  have hl : Z.length = R.length := by rw [← hZZ]; simp
  have hg : ∀ j, j < R.length - 2 → Z.getD j [] = R.getD j [] := fun j hj => by
    rw [← hZZ, getD_set _ _ _ _ (by simp; omega), if_neg (by omega), getD_set _ _ _ _ (by omega), if_neg (by omega)]
  show parQ (parP Z) = _
  have ht : Z.take (R.length - 2) = R.take (R.length - 2) := by
    apply list_ext
    · simp [hl]
    · intro j hj
      rw [List.length_take] at hj
      rw [take_get _ _ _ (by omega), take_get _ _ _ (by omega), hg j (by omega)]
  have ht2 : (parP Z).take (R.length - 2) = R.take (R.length - 2) := by
    apply list_ext
    · simp [parP_len, hl]
    · intro j hj
      rw [List.length_take] at hj
      rw [take_get _ _ _ (by omega), take_get _ _ _ (by omega)]
      unfold parP
      rw [getD_set _ _ _ _ (by omega), if_neg (by omega), hg j (by omega)]
  have htl : (R.take (R.length - 2)).length = R.length - 2 := by rw [List.length_take]; omega
  apply list_ext
  · unfold parQ; rw [List.length_set, parP_len, makeF_len, htl]; omega
  · intro j hj
    unfold parQ at hj ⊢
    rw [List.length_set, parP_len] at hj
    rw [makeF_get, htl, parP_len, hl, ht2, getD_set _ _ _ _ (by rw [parP_len]; omega)]
    by_cases h1 : R.length - 1 = j
    · rw [if_pos h1, if_neg (by omega), if_neg (by omega), if_pos (by omega)]
    rw [if_neg h1]
    unfold parP
    rw [hl, ht, getD_set _ _ _ _ (by omega)]
    by_cases h2 : R.length - 2 = j
    · rw [if_pos h2, if_neg (by omega), if_pos h2.symm]
    rw [if_neg h2, if_pos (by omega), take_get _ _ _ (by omega), hg j (by omega)]
end Go.Proofs.YtdfkifgkccnaiaaGreatDoor
