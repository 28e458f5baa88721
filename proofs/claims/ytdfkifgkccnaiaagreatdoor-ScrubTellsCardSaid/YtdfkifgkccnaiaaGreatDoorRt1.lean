import Derived.Test.YtdfkifgkccnaiaaGreatDoorRf1
/-! The reference's refill: has, size, May, Make. -/
namespace Go.Proofs.YtdfkifgkccnaiaaGreatDoor
open Go.Sh Go.RowKit
set_option linter.unusedVariables false
set_option linter.unusedSimpArgs false
set_option maxRecDepth 20000
set_option maxHeartbeats 2000000
theorem has_spec {l : List Int} (hl : l.length ≤ 1000000) (x : Int) {p : Option Addr} {c : Nat} {w : World} (h : intsL w p l) : Ret Tryz.prog 53 #[.slice p l.length c, .int .i64 x] w (.bool (decide (x ∈ l))) := by
  refine ret_of (revetmentref06_has_calls ?_)
  unfold revetmentref06_has
  refine ⟨fun vs w' => w' = w ∧ ∃ i : Nat, vs = [.int .i64 (i : Int)] ∧ i ≤ l.length ∧ x ∉ l.take i, fun vs _ => match vs with | [.int _ i] => (l.length - i).toNat | _ => 0, ⟨rfl, 0, rfl, by omega, by simp⟩, ?_⟩
  rintro vs w1 ⟨rfl, i, rfl, hi, hni⟩
  refine ⟨_, rfl, dec_t fun hlt => ?_, dec_f fun hge => ?_⟩
  · have hlt : i < l.length := by omega
    obtain ⟨a, ha, hc⟩ := h.get hlt
    have hg : l.getD i 0 = l[i] := by simp [List.getD, hlt]
    refine ⟨a, ha, by omega, by omega, _, by rw [Int.toNat_natCast]; exact hc, beq_t fun hx => ⟨?_, Ext.refl _⟩, beq_f fun hx => ⟨⟨rfl, i + 1, ?_, by omega, ?_⟩, ?_⟩⟩
    · rw [decide_eq_true (by rw [← hx, hg]; exact List.getElem_mem hlt)]
    · rw [wrap64 _ (by omega) (by omega)]; rfl
    · rw [List.take_add_one, List.getElem?_eq_getElem hlt]
      intro hm
      rcases List.mem_append.1 hm with hm | hm
      · exact hni hm
      · rw [hg] at hx
        exact hx (Eq.symm (by simpa using hm))
    · show ((l.length : Int) - IntKind.i64.wrap ((i : Int) + 1)).toNat < ((l.length : Int) - (i : Int)).toNat
      rw [wrap64 _ (by omega) (by omega)]; omega
  · have hie : i = l.length := by omega
    subst hie
    rw [List.take_length] at hni
    exact ⟨by rw [decide_eq_false hni], Ext.refl _⟩
/-- the one length of what is not lost, below 0 if there is none -/
def SizeP (L : List Txt) (lost : List Int) (r : Int) : Prop :=
  (∃ m : Nat, r = m ∧ (∃ j, j < L.length ∧ (j : Int) ∉ lost) ∧ ∀ j, j < L.length → (j : Int) ∉ lost → (L.getD j []).length = m) ∨
  (r = -1 ∧ ((∀ j, j < L.length → (j : Int) ∈ lost) ∨ ∃ i j, i < L.length ∧ j < L.length ∧ (i : Int) ∉ lost ∧ (j : Int) ∉ lost ∧ (L.getD i []).length ≠ (L.getD j []).length))
theorem size_spec' {L : List Txt} {lost : List Int} (hl : lost.length ≤ 1000000) (hL : L.length ≤ 1000000) {p q : Option Addr} {c d : Nat} {w : World} (hp : strsL w p L) (hq : intsL w q lost) :
    Calls Tryz.prog 54 #[.slice p L.length c, .slice q lost.length d] w fun e w' => ∃ r : Int, e = .returned (.int .i64 r) ∧ SizeP L lost r ∧ Ext w w' := by
  refine (revetmentref06_size_calls (R := fun v w' => ∃ r : Int, v = .int .i64 r ∧ SizeP L lost r ∧ Ext w w') ?_).mono fun e w' ⟨v, he, r, hv, h⟩ => ⟨r, by rw [he, hv], h⟩
  unfold revetmentref06_size
  refine ⟨fun vs w' => Ext w w' ∧ ∃ (i : Nat) (n : Int), vs = [.int .i64 n, .int .i64 (i : Int)] ∧ i ≤ L.length ∧ ((n = -1 ∧ ∀ j, j < i → (j : Int) ∈ lost) ∨ ∃ m : Nat, n = m ∧ (∃ j, j < i ∧ (j : Int) ∉ lost) ∧ ∀ j, j < i → (j : Int) ∉ lost → (L.getD j []).length = m), fun vs _ => match vs with | [_, .int _ i] => (L.length - i).toNat | _ => 0, ⟨Ext.refl w, 0, -1, rfl, by omega, .inl ⟨rfl, fun j h => by omega⟩⟩, ?_⟩
  rintro vs w1 ⟨hx, i, n, rfl, hi, hinv⟩
  refine ⟨_, _, rfl, dec_t fun hlt => ?_, dec_f fun hge => ?_⟩
  · have hlt : i < L.length := by omega
    have hms : ((L.length : Int) - IntKind.i64.wrap ((i : Int) + 1)).toNat < ((L.length : Int) - (i : Int)).toNat := by rw [wrap64 _ (by omega) (by omega)]; omega
    have hnx : IntKind.i64.wrap ((i : Int) + 1) = ((i + 1 : Nat) : Int) := by rw [wrap64 _ (by omega) (by omega)]; omega
    refine (has_spec hl (i : Int) (c := d) (hq.ext hx)).mono fun e w2 ⟨he, hx2⟩ => ⟨_, he, dec_t fun hm => ?_, dec_f fun hm => Join.intro fun J hJ => ?_⟩
    · refine ⟨⟨hx.trans hx2, i + 1, n, by rw [hnx], by omega, ?_⟩, hms⟩
      rcases hinv with ⟨h8, h⟩ | ⟨m, h8, ⟨j, hj, hjl⟩, h⟩
      · exact .inl ⟨h8, fun j hj => by
          rcases Nat.lt_or_ge j i with h' | h'
          · exact h j h'
          · obtain rfl : j = i := by omega
            exact hm⟩
      · exact .inr ⟨m, h8, ⟨j, by omega, hjl⟩, fun j hj hl => by
          rcases Nat.lt_or_ge j i with h' | h'
          · exact h j h' hl
          · obtain rfl : j = i := by omega
            exact absurd hm hl⟩
    · obtain ⟨a, ha, hc⟩ := (hp.ext (hx.trans hx2)).get hlt
      have good : (∀ j, j < i → (j : Int) ∉ lost → (L.getD j []).length = (L.getD i []).length) → J [] w2 := fun heq => by
        refine hJ _ _ ⟨rfl, a, ha, by omega, by omega, _, by rw [Int.toNat_natCast]; exact hc, ?_⟩
        rw [strB_size]
        refine ⟨⟨hx.trans hx2, i + 1, ((L.getD i []).length : Int), by rw [hnx], by omega, .inr ⟨_, rfl, ⟨i, by omega, hm⟩, fun j hj hl => ?_⟩⟩, hms⟩
        rcases Nat.lt_or_ge j i with h' | h'
        · exact heq j h' hl
        · obtain rfl : j = i := by omega
          rfl
      rcases hinv with ⟨h8, h⟩ | ⟨m, h8, ⟨j, hj, hjl⟩, h⟩
      · subst h8
        exact no rfl (good fun j hj hl => absurd (h j hj) hl)
      · subst h8
        refine yes (decide_eq_true (by omega)) ⟨a, ha, by omega, by omega, _, by rw [Int.toNat_natCast]; exact hc, ?_⟩
        rw [strB_size]
        refine ⟨bne_t fun hne => ⟨-1, rfl, .inr ⟨rfl, .inr ⟨i, j, hlt, by omega, hm, hjl, ?_⟩⟩, hx.trans hx2⟩, bne_f fun he => good fun j' hj' hl' => ?_⟩
        · rw [h j hj hjl]; omega
        · rw [h j' hj' hl']; omega
  · have hie : i = L.length := by omega
    subst hie
    refine ⟨n, rfl, ?_, hx⟩
    rcases hinv with ⟨h8, h⟩ | ⟨m, h8, h9, h⟩
    · exact .inr ⟨h8, .inl h⟩
    · exact .inl ⟨m, h8, h9, h⟩
theorem pig : ∀ {n : Nat} {l : List Int}, l.Nodup → (∀ x ∈ l, 0 ≤ x ∧ x < (n : Int)) → l.length ≤ n
  | 0, l, _, h => by
    cases l with
    | nil => simp
    | cons x l => have := h x (by simp); omega
  | n + 1, l, hn, h => by
    have h1 : (l.erase (n : Int)).length ≤ n := pig (hn.erase _) fun x hx => by
      have a := h x (List.mem_of_mem_erase hx)
      have b : x ≠ (n : Int) := fun e => by
        subst e
        exact List.Nodup.not_mem_erase hn hx
      omega
    have h2 := List.length_erase (a := (n : Int)) (l := l)
    split at h2 <;> omega
theorem pig_miss {n j : Nat} {l : List Int} (hn : l.Nodup) (h : ∀ x ∈ l, 0 ≤ x ∧ x < (n : Int)) (hj : j < n) (hm : (j : Int) ∉ l) : l.length < n := by
  have := pig (n := n) (l := (j : Int) :: l) (List.nodup_cons.2 ⟨hm, hn⟩) fun x hx => by
    rcases List.mem_cons.1 hx with rfl | hx
    · omega
    · exact h x hx
  have : l.length + 1 ≤ n := by simpa using this
  omega
theorem cover : ∀ {n : Nat} {l : List Int}, (∀ j, j < n → (j : Int) ∈ l) → n ≤ l.length
  | 0, _, _ => by omega
  | n + 1, l, h => by
    have h1 : n ≤ (l.erase (n : Int)).length := cover fun j hj => (List.mem_erase_of_ne (by omega)).2 (h j (by omega))
    have h2 := List.length_erase_of_mem (h n (by omega))
    have h3 : 0 < l.length := List.length_pos_of_mem (h n (by omega))
    omega
theorem ints_to {p : Option Addr} {n c : Nat} {hi : Int} (h0 : 0 ≤ hi) (h2 : hi ≤ (c : Int)) (w : World) : (Instr.sliceAt 44 (.slice p n c) none (some (.int .i64 hi)) none).run Tryz.prog w = .ok (.slice p hi.toNat c) w := by
  have hsz : (sizeOf (Tryz.prog.elem 44)).run Tryz.prog w = .ok 1 w := by kernel_rfl
  rw [run_sliceAt_slice w _ _ _ _ _ (by kernel_rfl), run_slice_h w _ _ _ _ (by kernel_rfl) _ _ h0 h2, hsz]
  simp only [Result.andThen, sliced, Nat.zero_mul, Nat.sub_zero]
  congr 2
  split
  · rfl
  · cases p with
    | none => rfl
    | some a => simp [Addr.add]
theorem intsL.take {w : World} {p : Option Addr} {l : List Int} (h : intsL w p l) (n : Nat) : intsL w p (l.take n) :=
  ⟨fun hn => h.1 fun e => hn (by rw [e]; simp), fun a ha j x hj => h.2 a ha j x (by
    rw [List.getElem?_take] at hj
    split at hj
    · exact hj
    · cases hj)⟩
theorem mayR_spec {L : List Txt} {lost : List Int} (hl : lost.length ≤ 1000000) (hL : L.length ≤ 1000000) {p q : Option Addr} {c d : Nat} (hd : lost.length ≤ d) {w : World} (hp : strsL w p L) (hq : intsL w q lost) :
    Calls Tryz.prog 30 #[.slice p L.length c, .slice q lost.length d] w fun e w' => ∃ n : Int, e = .returned (.int .i64 n) ∧ Ext w w' ∧ (OkM L lost → n = if lost.length > 2 then 60 else 0) ∧ (¬ OkM L lost → n = 1) := by
  refine (revetmentref06_May_calls (R := fun v w' => ∃ n : Int, v = .int .i64 n ∧ Ext w w' ∧ (OkM L lost → n = if lost.length > 2 then 60 else 0) ∧ (¬ OkM L lost → n = 1)) ?_).mono fun e w' ⟨v, he, n, hv, h⟩ => ⟨n, by rw [he, hv], h⟩
  unfold revetmentref06_May
  have bad : ∀ {w'}, Ext w w' → ¬ OkM L lost → ∃ n : Int, Value.int .i64 1 = .int .i64 n ∧ Ext w w' ∧ (OkM L lost → n = if lost.length > 2 then 60 else 0) ∧ (¬ OkM L lost → n = 1) := fun hx hn => ⟨1, rfl, hx, fun h => absurd h hn, fun _ => rfl⟩
  refine ⟨dec_t fun h => bad (.refl w) (fun hk => by have := hk.n4; omega), dec_f fun n4 => ⟨dec_t fun h => bad (.refl w) (fun hk => by have := hk.n10; omega), dec_f fun n10 => ?_⟩⟩
  refine ⟨fun vs w' => Ext w w' ∧ ∃ i : Nat, vs = [.int .i64 (i : Int)] ∧ i ≤ lost.length ∧ (∀ x ∈ lost.take i, 0 ≤ x ∧ x < (L.length : Int)) ∧ (lost.take i).Nodup, fun vs _ => match vs with | [.int _ i] => (lost.length - i).toNat | _ => 0, ⟨Ext.refl w, 0, rfl, by omega, by simp, by simp⟩, ?_⟩
  rintro vs w1 ⟨hx, i, rfl, hi, hr, hnd⟩
  refine ⟨_, rfl, dec_t fun hlt => ?_, dec_f fun hge => ?_⟩
  · have hlt : i < lost.length := by omega
    have hg : lost.getD i 0 = lost[i] := by simp [List.getD, hlt]
    obtain ⟨a, ha, _⟩ := hq.get hlt
    have hc : ∀ w', Ext w w' → w'.cell? (Addr.add a (((i : Int)).toNat * 1)) = some (.int .i64 lost[i]) := fun w' h' => by
      obtain ⟨a', ha', hc⟩ := (hq.ext h').get hlt
      rw [ha] at ha'; cases ha'
      rw [Int.toNat_natCast, ← hg]; exact hc
    have hmem : lost[i] ∈ lost := List.getElem_mem hlt
    refine ⟨fun w' => Ext w w', hx.drew, a, ha, by omega, by omega, _, hc, dec_t fun h => bad hx.drew (fun hk => by have := hk.rng _ hmem; omega), dec_f fun x0 => ⟨a, ha, by omega, by omega, _, hc, dec_t fun h => bad hx.drew (fun hk => by have := hk.rng _ hmem; omega), dec_f fun x1 => ?_⟩⟩
    refine ⟨q, i, d, fun w' _ => by rw [ints_to (by omega) (by omega) w', Int.toNat_natCast], a, ha, by omega, by omega, _, hc, ?_⟩
    have hs := has_spec (l := lost.take i) (by rw [List.length_take]; omega) lost[i] (c := d) ((hq.ext hx.drew).take i)
    rw [List.length_take, Nat.min_eq_left (by omega)] at hs
    have htk : lost.take (i + 1) = lost.take i ++ [lost[i]] := by rw [List.take_add_one, List.getElem?_eq_getElem hlt]; rfl
    refine hs.mono fun e w2 ⟨he, hx2⟩ => ⟨_, he, hx.drew.trans hx2, dec_t fun hm => bad (hx.drew.trans hx2) (fun hk => not_nodup hlt hm hk.nodup), dec_f fun hm => ⟨⟨hx.drew.trans hx2, i + 1, ?_, by omega, ?_, ?_⟩, ?_⟩⟩
    · rw [wrap64 _ (by omega) (by omega)]; rfl
    · rw [htk]
      intro x hx
      rcases List.mem_append.1 hx with hx | hx
      · exact hr x hx
      · obtain rfl := List.mem_singleton.1 hx
        omega
    · rw [htk, List.nodup_append]
      refine ⟨hnd, by simp, fun x hx y hy => ?_⟩
      obtain rfl := List.mem_singleton.1 hy
      exact fun e => hm (e ▸ hx)
    · show ((lost.length : Int) - IntKind.i64.wrap ((i : Int) + 1)).toNat < ((lost.length : Int) - (i : Int)).toNat
      rw [wrap64 _ (by omega) (by omega)]; omega
  · have hie : i = lost.length := by omega
    subst hie
    rw [List.take_length] at hr hnd
    refine (size_spec' hl hL (c := c) (d := d) (hp.ext hx) (hq.ext hx)).mono fun e w2 ⟨r, he, hr2, hx2⟩ => ⟨r, he, Join.intro fun J hJ => ?_⟩
    have fin : OkM L lost → J [] w2 := fun hk => hJ _ _ ⟨rfl, dec_t fun h => ⟨60, rfl, hx.trans hx2, fun _ => by rw [if_pos (by omega)], fun hn => absurd hk hn⟩, dec_f fun h => ⟨0, rfl, hx.trans hx2, fun _ => by rw [if_neg (by omega)], fun hn => absurd hk hn⟩⟩
    refine ⟨dec_t fun hlt => ⟨dec_t fun h0 => bad (hx.trans hx2) fun hk => ?_, dec_f fun h0 => ⟨dec_t fun h4 => bad (hx.trans hx2) fun hk => ?_, dec_f fun h4 => fin ?_⟩⟩, dec_f fun hge => fin ⟨by omega, by omega, hr, hnd, 0, by omega, fun j hj hm => absurd (pig_miss hnd hr hj hm) (by omega)⟩⟩
    · rcases hr2 with ⟨m, rfl, _⟩ | ⟨_, hall | ⟨i, j, hi, hj, him, hjm, hne⟩⟩
      · omega
      · have := cover hall
        omega
      · obtain ⟨m, _, h⟩ := hk.lens
        exact hne (by rw [h i hi him, h j hj hjm])
    · rcases hr2 with ⟨m, rfl, ⟨j, hj, hjm⟩, h⟩ | ⟨rfl, _⟩
      · obtain ⟨m', h4', h'⟩ := hk.lens
        have e1 := h j hj hjm
        have e2 := h' j hj hjm
        omega
      · omega
    · rcases hr2 with ⟨m, rfl, _, h⟩ | ⟨rfl, _⟩
      · exact ⟨by omega, by omega, hr, hnd, m, by omega, h⟩
      · omega
theorem append_none (w : World) (k : Nat) (c : Nat) : (builtin .append #[22, 22] 22 #[false, false] #[.slice (some ⟨k, 0, none⟩) 0 0, .slice none 0 c]).run Tryz.prog w = .ok (.value (.slice (some ⟨k, 0, none⟩) 0 0)) w := by
  have hr : (Builtin.append_ #[22, 22] 22 #[.slice (some ⟨k, 0, none⟩) 0 0, .slice none 0 c]).run Tryz.prog w = .ok (.slice (some ⟨k, 0, none⟩) 0 0) w := by
    have ht : Tryz.prog.underlying 22 = some (.slice 9) := by kernel_rfl
    have hi : Tryz.prog.info? 9 = some Tryz.t9 := by kernel_rfl
    simp [Builtin.append_, run_underlying ht, sizeOf, typeInfo, hi, Builtin.lenOf, Builtin.firstCells, loadCells, loadCellsFrom, storeCells]
  simp [builtin, hr, Result.andThen]
theorem makeR_spec {L : List Txt} (hn : L.length ≤ 200) (hS : Short L) {p : Option Addr} {c : Nat} {w : World} (hp : strsL w p L) :
    Calls Tryz.prog 35 #[.slice p L.length c] w fun e w' => (OkM (makeF L) [] ∧ ∃ b cap, e = .returned (.tuple #[.slice (some ⟨b, 0, none⟩) (L.length + 2) cap, .int .i64 0]) ∧ T [] w w' [rowP 9 1 (some b) (L.length + 2) cap (txts (makeF L))]) ∨
      (¬ OkM (makeF L) [] ∧ e = .returned (.tuple #[.slice none 0 0, .int .i64 1]) ∧ Ext w w') := by
  refine (revetmentref06_Make_calls (R := fun v w' => (OkM (makeF L) [] ∧ ∃ b cap, v = .tuple #[.slice (some ⟨b, 0, none⟩) (L.length + 2) cap, .int .i64 0] ∧ T [] w w' [rowP 9 1 (some b) (L.length + 2) cap (txts (makeF L))]) ∨
      (¬ OkM (makeF L) [] ∧ v = .tuple #[.slice none 0 0, .int .i64 1] ∧ Ext w w')) ?_).mono fun e w' ⟨v, he, h⟩ => by
    rcases h with ⟨h1, b, cap, hv, h3⟩ | ⟨h1, hv, h3⟩
    · exact .inl ⟨h1, b, cap, by rw [he, hv], h3⟩
    · exact .inr ⟨h1, by rw [he, hv], h3⟩
  unfold revetmentref06_Make
  refine Alloc.t (T.nil w) fun k6 w1 h1 => ?_
  have h1 : T [] w w1 [rowP 9 1 (some k6) 0 0 []] := blk_row h1 rfl rfl (by decide)
  have step1 : ∃ (g : Option Nat) (cap : Nat) (w2 : World), (builtin .append #[22, 22] 22 #[false, false] #[.slice (some ⟨k6, 0, none⟩) 0 0, .slice p L.length c]).run Tryz.prog w1 = .ok (.value (.slice (ptr g) L.length cap)) w2 ∧ T [] w w2 [rowP 9 1 g L.length cap (txts L)] := by
    cases p with
    | none =>
      have hL0 : L = [] := by
        cases L with
        | nil => rfl
        | cons x L => obtain ⟨a, ha⟩ := hp.1 (by simp); cases ha
      subst hL0
      exact ⟨some k6, 0, w1, append_none w1 k6 c, h1⟩
    | some a =>
      obtain ⟨g', cap', w2, hr, h2⟩ := append_t (P := Tryz.prog) (t := 22) (ty := 22) (e := 9) (i := Tryz.t9) (z := .string (ByteArray.mk #[])) (size := 1) #[false, false] (by kernel_rfl) (by kernel_rfl) (by kernel_rfl) (by kernel_rfl) (by rfl)
        h1 .head (a := a) (m := L.length) (c := c) (news := txts L) (by rw [txts_len, Nat.mul_one]) (fun j u hu => by
          have hj : j < L.length := by have := (List.getElem?_eq_some_iff.1 hu).1; rw [txts_len] at this; exact this
          obtain ⟨a', ha', hc⟩ := (hp.ext h1.chg.ext).get hj
          cases ha'
          rw [Nat.mul_one] at hc
          rw [hc]
          have : (txts L)[j]? = some (.string (strB (L.getD j []))) := by simp [txts, List.getD, hj]
          rw [this] at hu; exact hu) (fun u hu => by
          obtain ⟨x, _, rfl⟩ := List.mem_map.1 hu
          rfl) (by simp only [maxLen]; omega) (by
          have : (Tryz.t9).bytes = 16 := by kernel_rfl
          rw [this]; omega)
      rw [Nat.zero_add] at hr h2
      exact ⟨g', cap', w2, hr, by simpa using h2⟩
  obtain ⟨g, cap, w2, hr, h2⟩ := step1
  refine ⟨_, _, _, w2, hr, ?_⟩
  refine (pR_spec hS (by omega) (c := c) (hp.ext h2.chg.ext)).mono fun e w3 ⟨he, hx3⟩ => ⟨_, he, ?_⟩
  have h3 := h2.quiet hx3
  refine (qR_spec hS (by omega) (c := c) (hp.ext h3.chg.ext)).mono fun e w4 ⟨he, hx4⟩ => ⟨_, he, ?_⟩
  refine Alloc.t (h3.quiet hx4) fun k12 w5 h5 => ?_
  have h5 : T [] w w5 (rowP 9 1 (some k12) 2 2 (txts [sumT L, qT L]) :: [rowP 9 1 g L.length cap (txts L)]) := blk_row h5 rfl rfl (by decide)
  obtain ⟨g', cap', w6, hr, h6⟩ := append_t (P := Tryz.prog) (t := 22) (ty := 22) (e := 9) (i := Tryz.t9) (z := .string (ByteArray.mk #[])) (size := 1) #[false, false] (by kernel_rfl) (by kernel_rfl) (by kernel_rfl) (by kernel_rfl) (by rfl)
    h5 (.tail .head) (a := ⟨k12, 0, none⟩) (m := 2) (c := 2) (news := txts [sumT L, qT L]) rfl (fun j u hu => by
      rw [addr_add, Nat.zero_add]
      exact rowP.cell (h5.says List.mem_cons_self) hu) (fun u hu => by
      obtain ⟨x, _, rfl⟩ := List.mem_map.1 hu
      rfl) (by simp only [maxLen]; omega) (by
      have : (Tryz.t9).bytes = 16 := by kernel_rfl
      rw [this]; omega)
  have em : txts L ++ txts [sumT L, qT L] = txts (makeF L) := by simp [txts, makeF]
  rw [em] at h6
  obtain ⟨b, rfl⟩ : ∃ b, g' = some b := rowP.pos (h6.says List.mem_cons_self) (by omega)
  refine ⟨_, _, _, w6, hr, ?_⟩
  have hst := T.rowS h6 (b := b) (L := makeF L) (by repeat (first | exact List.Mem.head _ | refine List.Mem.tail _ ?_))
  have hm := mayR_spec (L := makeF L) (lost := []) (c := cap') (d := 0) (by simp) (by rw [makeF_len]; omega) (by simp) hst.1 (q := none) ⟨fun h => absurd rfl h, fun a ha => by cases ha⟩
  rw [makeF_len] at hm
  refine hm.mono fun e w7 ⟨n, he, hx7, hok, hno⟩ => ⟨n, he, bne_t fun hn => ?_, bne_f fun hn => ?_⟩
  · have hk : ¬ OkM (makeF L) [] := fun hk => hn (by rw [hok hk]; rfl)
    exact .inr ⟨hk, by rw [hno hk], (h6.quiet hx7).chg.ext⟩
  · have hk : OkM (makeF L) [] := Classical.byContradiction fun h => by have := hno h; omega
    exact .inl ⟨hk, b, cap', rfl, T.dropAt (h6.quiet hx7) (.tail .head)⟩
end Go.Proofs.YtdfkifgkccnaiaaGreatDoor
