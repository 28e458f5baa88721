import Derived.Test.YtdfkifgkccnaiaaGreatDoorRt3
/-! The reference's refill: Fill. -/
namespace Go.Proofs.YtdfkifgkccnaiaaGreatDoor
open Go.Sh Go.RowKit
set_option linter.unusedVariables false
set_option linter.unusedSimpArgs false
set_option maxRecDepth 20000
set_option maxHeartbeats 2000000
/-- rows of bytes, and the row of their slices -/
abbrev Rw := Option Nat × Nat × Txt
def rwA (r : Rw) : A := rowP 5 1 r.1 r.2.2.length r.2.1 (bvals r.2.2)
def rwV (r : Rw) : Value := .slice (ptr r.1) r.2.2.length r.2.1
def outA (rs : List Rw) : List A := rs.map rwA
def outV (rs : List Rw) : List Value := rs.map rwV
theorem outV_len (rs : List Rw) : (outV rs).length = rs.length := List.length_map ..
theorem pick_at : ∀ (l : List A) (i : Nat) (h : i < l.length), Pick l[i] l (l.eraseIdx i)
  | x :: l, 0, _ => .head
  | x :: l, i + 1, h => .tail (pick_at l i (by simpa using h))
theorem pick_out {rs : List Rw} {i : Nat} (h : i < rs.length) : Pick (rwA rs[i]) (outA rs) (outA (rs.eraseIdx i)) := by
  have := pick_at (outA rs) i (by simpa [outA] using h)
  have e : (outA rs).eraseIdx i = outA (rs.eraseIdx i) := by
    unfold outA
    induction rs generalizing i with
    | nil => rfl
    | cons x l ih =>
      cases i with
      | zero => rfl
      | succ i => simp only [List.map_cons, List.eraseIdx_cons_succ]; rw [ih (i := i) (by simpa using h) (by have := pick_at (outA l) i (by simpa [outA] using h); exact this)]
  rw [e] at this
  simpa [outA] using this
theorem perm_out {rs : List Rw} {i : Nat} (h : i < rs.length) (r : Rw) : (rwA r :: outA (rs.eraseIdx i)).Perm (outA (rs.set i r)) := by
  induction rs generalizing i with
  | nil => simp at h
  | cons x l ih =>
    cases i with
    | zero => exact .refl _
    | succ i => exact (List.Perm.swap _ _ _).trans (.cons _ (ih (by simpa using h)))
/-- columns, as far as they are built -/
def Built (F : List Txt) (k i : Nat) (rs : List Rw) : Prop := rs.length = F.length ∧ ∀ j (h : j < rs.length), (rs[j]).2.2 = (F.getD j []).take (if j < i then k + 1 else k)
theorem fillR_spec {L : List Txt} {lost : List Int} (hl : lost.length ≤ 100000) (hL : L.length ≤ 1000) (hS : Short L) {p q : Option Addr} {c d : Nat} (hd : lost.length ≤ d) {w : World} (hp : strsL w p L) (hq : intsL w q lost) :
    Calls Tryz.prog 33 #[.slice p L.length c, .slice q lost.length d] w fun e w' => (OkM L lost ∧ lost.length ≤ 2 ∧ ∃ b cap, e = .returned (.tuple #[.slice (some ⟨b, 0, none⟩) L.length cap, .int .i64 0]) ∧ T [] w w' [rowP 9 1 (some b) L.length cap (txts (fillF L lost))]) ∨
      (∃ n : Int, n ≠ 0 ∧ e = .returned (.tuple #[.slice none 0 0, .int .i64 n]) ∧ Ext w w' ∧ (OkM L lost → 2 < lost.length ∧ n = 60) ∧ (¬ OkM L lost → n = 1)) := by
  refine (revetmentref06_Fill_calls (R := fun v w' => (OkM L lost ∧ lost.length ≤ 2 ∧ ∃ b cap, v = .tuple #[.slice (some ⟨b, 0, none⟩) L.length cap, .int .i64 0] ∧ T [] w w' [rowP 9 1 (some b) L.length cap (txts (fillF L lost))]) ∨
      (∃ n : Int, n ≠ 0 ∧ v = .tuple #[.slice none 0 0, .int .i64 n] ∧ Ext w w' ∧ (OkM L lost → 2 < lost.length ∧ n = 60) ∧ (¬ OkM L lost → n = 1))) ?_).mono fun e w' ⟨v, he, h⟩ => by
    rcases h with ⟨h1, h2, b, cap, hv, h3⟩ | ⟨n, h1, hv, h3⟩
    · exact .inl ⟨h1, h2, b, cap, by rw [he, hv], h3⟩
    · exact .inr ⟨n, h1, by rw [he, hv], h3⟩
  unfold revetmentref06_Fill
  refine (mayR_spec (by omega) (by omega) hd hp hq).mono fun e w1 ⟨n, he, hx1, hok, hno⟩ => ⟨n, he, bne_t fun hn => .inr ⟨n, hn, rfl, hx1, fun hk => ?_, hno⟩, bne_f fun hn => ?_⟩
  · have := hok hk
    by_cases h : lost.length > 2
    · rw [if_pos h] at this; exact ⟨h, this⟩
    · rw [if_neg h] at this; exact absurd this hn
  have hk : OkM L lost := Classical.byContradiction fun h => by have := hno h; omega
  have hl2 : lost.length ≤ 2 := by
    have := hok hk
    by_cases h : lost.length > 2
    · rw [if_pos h] at this; omega
    · omega
  have n4 := hk.n4
  have n10 := hk.n10
  obtain ⟨m, hm4, hm⟩ := hk.lens
  have hF := fill_col hk hl2 hm
  have hmiss : ∃ j, j < L.length ∧ (j : Int) ∉ lost := Classical.byContradiction fun h => by
    have := cover (n := L.length) (l := lost) fun j hj => Classical.byContradiction fun hn => h ⟨j, hj, hn⟩
    omega
  have hsize : ∀ r, SizeP L lost r → r = (m : Int) := fun r hr => by
    obtain ⟨j, hj, hjn⟩ := hmiss
    rcases hr with ⟨m', rfl, _, h⟩ | ⟨_, h | ⟨i, k, hi, hk', h1, h2, hne⟩⟩
    · have e1 := h j hj hjn; have e2 := hm j hj hjn; omega
    · exact absurd (h j hj) hjn
    · exact absurd (by rw [hm i hi h1, hm k hk' h2]) hne
  obtain ⟨n, hn2⟩ : ∃ n, L.length = n + 2 := ⟨L.length - 2, by omega⟩
  have hfl := hF.len
  generalize hFF : fillF L lost = F at hF hfl
  have hFlen : ∀ j, j < F.length → (F.getD j []).length = m := hF.all
  refine Alloc.t ((T.nil w).quiet hx1) fun k20 w2 h2 => ?_
  have h2 : T [] w w2 (rowP 33 1 (some k20) 0 0 (outV []) :: outA []) := blk_row h2 rfl rfl (by decide)
  refine ⟨fun vs w' => ∃ (i : Nat) (g : Option Nat) (cap : Nat) (rs : List Rw), vs = [.slice (ptr g) i cap, .int .i64 (i : Int)] ∧ i ≤ L.length ∧ rs.length = i ∧ (∀ r ∈ rs, r.2.2 = []) ∧ T [] w w' (rowP 33 1 g i cap (outV rs) :: outA rs), fun vs _ => match vs with | [_, .int _ i] => (L.length - i).toNat | _ => 0, ⟨0, some k20, 0, [], rfl, by omega, rfl, by simp, h2⟩, ?_⟩
  rintro vs w3 ⟨i, g, cap, rs, rfl, hi, hrl, hre, h3⟩
  refine ⟨_, _, _, _, rfl, dec_t fun hlt => ?_, dec_f fun hge => ?_⟩
  · have hlt : i < L.length := by omega
    refine Alloc.t h3 fun k28 w4 h4 => ?_
    have h4 : T [] w w4 (rwA (some k28, 0, []) :: rowP 33 1 g i cap (outV rs) :: outA rs) := blk_row h4 rfl rfl (Nat.zero_le _)
    refine push1_t (i := Tryz.t33) (z := .slice none 0 0) (by kernel_rfl) (by kernel_rfl) (by kernel_rfl) (by kernel_rfl) (by kernel_rfl) (by kernel_rfl) h4 (.tail .head) rfl (by omega) fun g2 cap2 w8 h8 => ⟨⟨i + 1, g2, cap2, rs ++ [(some k28, 0, [])], ?_, by omega, by simp [hrl], ?_, ?_⟩, ?_⟩
    · rw [wrap64 _ (by omega) (by omega)]; rfl
    · intro r hr
      rcases List.mem_append.1 hr with hr | hr
      · exact hre r hr
      · rw [List.mem_singleton.1 hr]
    · have e1 : outV rs ++ [.slice (some ⟨k28, 0, none⟩) 0 0] = outV (rs ++ [(some k28, 0, [])]) := by simp [outV, rwV, ptr]
      rw [e1] at h8
      refine h8.swap (.cons _ ?_)
      have e2 : outA (rs ++ [(some k28, 0, [])]) = outA rs ++ [rwA (some k28, 0, [])] := by simp [outA]
      rw [e2]
      exact (List.perm_append_singleton _ _).symm
    · show ((L.length : Int) - IntKind.i64.wrap ((i : Int) + 1)).toNat < ((L.length : Int) - (i : Int)).toNat
      rw [wrap64 _ (by omega) (by omega)]; omega
  have hie : i = L.length := by omega
  subst hie
  obtain ⟨bo, rfl⟩ : ∃ b, g = some b := rowP.pos (h3.says List.mem_cons_self) (by omega)
  have hB0 : Built F 0 0 rs := ⟨by omega, fun j h => by rw [hre _ (List.getElem_mem h)]; simp⟩
  refine ⟨fun vs w' => ∃ (k : Nat) (rs : List Rw), vs = [.int .i64 (k : Int)] ∧ k ≤ m ∧ Built F k 0 rs ∧ T [] w w' (rowP 33 1 (some bo) L.length cap (outV rs) :: outA rs), fun vs _ => match vs with | [.int _ k] => (m - k).toNat | _ => 0, ⟨0, rs, rfl, by omega, hB0, h3⟩, ?_⟩
  rintro vs w7 ⟨k, rs, rfl, hkm, hB, h7⟩
  refine ⟨_, rfl, ?_⟩
  refine (size_spec' (by omega) (by omega) (c := c) (d := d) (hp.ext h7.chg.ext) (hq.ext h7.chg.ext)).mono fun e w8 ⟨r, he, hr, hx8⟩ => ⟨r, he, ?_⟩
  obtain rfl := hsize r hr
  have h8 := h7.quiet hx8
  refine ⟨dec_t fun hlt => ?_, dec_f fun hge => ?_⟩
  · have hlt : k < m := by omega
    refine (at_spec (L := L) (lost := lost) (k := k) (by omega) hL (fun j hj hn => by rw [hm j hj hn]; exact hlt) (c := c) (d := d) hp hq h8).mono fun e w9 ⟨g9, cap9, he, h9⟩ => ⟨_, _, _, he, ?_⟩
    obtain ⟨b9, rfl⟩ : ∃ b, g9 = some b := rowP.pos (h9.says List.mem_cons_self) (by omega)
    have hzf : ∀ j : Nat, j < L.length → vf (atL L lost k) j = atZ L lost k j := fun j hj => by simp [vf, atL, List.getD, hj]
    rw [hn2] at h9 ⊢
    refine (one_spec (v := atL L lost k) (n := n) (by rw [atL_len, hn2]) (by omega) (by omega) hl2 hk.nodup (fun x hx => by have := hk.rng x hx; omega) (fun j hj => ?_) (d := d) hq h9).mono fun e w10 ⟨v', he, hvl, hvo, hvf, h10⟩ => ⟨_, _, _, he, ?_⟩
    · have := hk.rng _ hj
      rw [hzf j (by omega)]
      exact if_pos hj
    have hcol : ∀ j, j < n + 2 → vf v' j = (F.getD j []).getD k 0 := by
      refine filled_unique (n := n) (by omega) hl2 hk.nodup (fun x hx => by have := hk.rng x hx; omega) hvf (by have := hF.fil k; rw [show L.length - 2 = n by omega] at this; exact this) fun j hj hn => ?_
      rw [hvo j hn, hzf j (by omega)]
      unfold atZ
      rw [if_neg hn, hF.out j hn]
    rw [← hn2] at h10 hcol hvl ⊢
    have h10 : T [] w w10 (rowP 33 1 (some bo) L.length cap (outV rs) :: rowP 5 1 (some b9) L.length cap9 (bvals v') :: outA rs) := h10.swap (.swap _ _ _)
    refine ⟨fun vs w' => ∃ (i : Nat) (rs : List Rw), vs = [.int .i64 (i : Int)] ∧ i ≤ L.length ∧ Built F k i rs ∧ T [] w w' (rowP 33 1 (some bo) L.length cap (outV rs) :: rowP 5 1 (some b9) L.length cap9 (bvals v') :: outA rs), fun vs _ => match vs with | [.int _ i] => (L.length - i).toNat | _ => 0, ⟨0, rs, rfl, by omega, hB, h10⟩, ?_⟩
    rintro vs w11 ⟨i, rs, rfl, hi, hB, h11⟩
    refine ⟨_, rfl, dec_t fun hlti => ?_, dec_f fun hgei => ?_⟩
    · have hlti : i < L.length := by omega
      have hir : i < rs.length := by rw [hB.1]; omega
      have hou : (outV rs)[i]? = some (rwV rs[i]) := by simp [outV, hir]
      have hcb : rs[i].2.2 = (F.getD i []).take k := by have := hB.2 i hir; rw [if_neg (by omega)] at this; exact this
      have readO : ∀ {w' : World} {Γ : List A}, T [] w w' Γ → rowP 33 1 (some bo) L.length cap (outV rs) ∈ Γ → w'.cell? (Addr.add ⟨bo, 0, none⟩ (((i : Int)).toNat * 1)) = some (rwV rs[i]) := fun h hm => by
        rw [Int.toNat_natCast, addr_add, Nat.zero_add, Nat.mul_one]
        exact rowP.cell (h.says hm) hou
      have readB : ∀ {w' : World} {Γ : List A}, T [] w w' Γ → rowP 5 1 (some b9) L.length cap9 (bvals v') ∈ Γ → w'.cell? (Addr.add ⟨b9, 0, none⟩ (((i : Int)).toNat * 1)) = some (.int .u8 ((vf v' i).toNat : Int)) := fun h hm => by
        rw [Int.toNat_natCast]
        exact row_byte h hm (by omega)
      refine ⟨fun w' => w'.cell? (Addr.add ⟨bo, 0, none⟩ (((i : Int)).toNat * 1)) = some (rwV rs[i]) ∧ w'.cell? (Addr.add ⟨b9, 0, none⟩ (((i : Int)).toNat * 1)) = some (.int .u8 ((vf v' i).toNat : Int)), ⟨readO h11.drew List.mem_cons_self, readB h11.drew (List.mem_cons_of_mem _ List.mem_cons_self)⟩, _, rfl, by omega, by omega, ptr (rs[i]).1, (rs[i]).2.2.length, (rs[i]).2.1, fun w' h => h.1, _, rfl, by omega, by omega, _, fun w' h => h.2, ?_⟩
      refine Alloc.t h11.drew fun k60 w12 h12 => ⟨⟨readO h12 (List.mem_cons_of_mem _ List.mem_cons_self), readB h12 (List.mem_cons_of_mem _ (List.mem_cons_of_mem _ List.mem_cons_self))⟩, ?_⟩
      have hrl : rs[i].2.2.length = k := by rw [hcb, List.length_take, hFlen i (by omega)]; omega
      obtain ⟨g', cap', w13, hrun, h13⟩ := append_t (P := Tryz.prog) (t := 33) (ty := 33) (e := 5) (i := Tryz.t5) (z := .int .u8 0) (size := 1) #[false, false] (by kernel_rfl) (by kernel_rfl) (by kernel_rfl) (by kernel_rfl) (by rfl)
        h12 (.tail (.tail (.tail (pick_out hir)))) (a := ⟨k60, 0, none⟩) (m := 1) (c := 1) (news := [.int .u8 ((vf v' i).toNat : Int)]) rfl (fun j u hu => by
          match j, hu with
          | 0, hu =>
            cases hu
            rw [addr_add]
            exact h12.ld (b := k60) (i := 0) List.mem_cons_self rfl) (fun u hu => by
          rw [List.mem_singleton.1 hu]; rfl) (by simp only [maxLen]; omega) (by
          have : (Tryz.t5).bytes = 1 := by kernel_rfl
          rw [this]; omega)
      have enew : bvals rs[i].2.2 ++ [.int .u8 ((vf v' i).toNat : Int)] = bvals ((F.getD i []).take (k + 1)) := by
        rw [hcb, hcol i hlti]
        refine bvals_next ?_
        have := hFlen i (by omega)
        simp only [List.getD_eq_getElem?_getD] at this ⊢
        rw [List.getElem?_eq_getElem (by omega)]; rfl
      rw [enew] at h13
      refine ⟨_, _, _, w13, hrun, ⟨readO h13 (List.mem_cons_of_mem _ (List.mem_cons_of_mem _ List.mem_cons_self)), readB h13 (List.mem_cons_of_mem _ (List.mem_cons_of_mem _ (List.mem_cons_of_mem _ List.mem_cons_self)))⟩, _, rfl, by omega, by omega, ?_⟩
      have hlen' : ((F.getD i []).take (k + 1)).length = rs[i].2.2.length + 1 := by rw [List.length_take, hFlen i (by omega), hrl]; omega
      rw [addr_add, Nat.zero_add, Nat.mul_one, Int.toNat_natCast]
      refine StRow.t h13 (.tail (.tail .head)) (by rw [outV_len]; exact hir) rfl fun w14 h14 => ⟨⟨i + 1, rs.set i (g', cap', (F.getD i []).take (k + 1)), ?_, by omega, ⟨by simp [hB.1], fun j hj => ?_⟩, ?_⟩, ?_⟩
      · rw [wrap64 _ (by omega) (by omega)]; rfl
      · rw [List.getElem_set]
        by_cases e : i = j
        · subst e; rw [if_pos rfl, if_pos (by omega)]
        · rw [if_neg e, hB.2 j (by simpa using hj)]
          by_cases h1 : j < i
          · rw [if_pos h1, if_pos (by omega)]
          · rw [if_neg h1, if_neg (by omega)]
      · have eo : (outV rs).set i (.slice (ptr g') (rs[i].2.2.length + 1) cap') = outV (rs.set i (g', cap', (F.getD i []).take (k + 1))) := by
          unfold outV
          rw [List.map_set]
          unfold rwV
          rw [hlen']
        rw [eo] at h14
        have h15 := T.dropAt h14 (.tail (.tail .head))
        refine h15.swap (.cons _ ((List.Perm.swap _ _ _).trans (.cons _ ?_)))
        have er : rowP 5 1 g' (rs[i].2.2.length + 1) cap' (bvals ((F.getD i []).take (k + 1))) = rwA (g', cap', (F.getD i []).take (k + 1)) := by
          unfold rwA
          rw [hlen']
        rw [er]
        exact perm_out hir _
      · show ((L.length : Int) - IntKind.i64.wrap ((i : Int) + 1)).toNat < ((L.length : Int) - (i : Int)).toNat
        rw [wrap64 _ (by omega) (by omega)]; omega
    · have hie : i = L.length := by omega
      subst hie
      refine ⟨⟨k + 1, rs, ?_, by omega, ⟨hB.1, fun j hj => ?_⟩, T.dropAt h11 (.tail .head)⟩, ?_⟩
      · rw [wrap64 _ (by omega) (by omega)]; rfl
      · rw [hB.2 j hj, if_pos (by have := hB.1; omega), if_neg (by omega)]
      · show ((m : Int) - IntKind.i64.wrap ((k : Int) + 1)).toNat < ((m : Int) - (k : Int)).toNat
        rw [wrap64 _ (by omega) (by omega)]; omega
  · have hke : k = m := by omega
    subst hke
    have hall : ∀ j (h : j < rs.length), rs[j].2.2 = F.getD j [] := fun j h => by
      rw [hB.2 j h, if_neg (by omega), List.take_of_length_le (by have := hB.1; rw [hFlen j (by omega)]; omega)]
    have hrl := hB.1
    refine Alloc.t h8 fun k63 w15 h15 => ?_
    have h15 : T [] w w15 (rowP 9 1 (some k63) 0 0 (txts (F.take 0)) :: rowP 33 1 (some bo) L.length cap (outV rs) :: outA rs) := blk_row h15 rfl rfl (by decide)
    refine ⟨fun vs w' => ∃ (i : Nat) (g : Option Nat) (cp : Nat), vs = [.slice (ptr g) i cp, .int .i64 (i : Int)] ∧ i ≤ L.length ∧ T [] w w' (rowP 9 1 g i cp (txts (F.take i)) :: rowP 33 1 (some bo) L.length cap (outV rs) :: outA rs), fun vs _ => match vs with | [_, .int _ i] => (L.length - i).toNat | _ => 0, ⟨0, some k63, 0, rfl, by omega, h15⟩, ?_⟩
    rintro vs w16 ⟨i, g, cp, rfl, hi, h16⟩
    refine ⟨_, _, _, _, rfl, dec_t fun hlti => ?_, dec_f fun hgei => ?_⟩
    · have hlti : i < L.length := by omega
      have hir : i < rs.length := by omega
      have hou : (outV rs)[i]? = some (rwV rs[i]) := by simp [outV, hir]
      refine ⟨_, rfl, by omega, by omega, _, _, _, by rw [Int.toNat_natCast, addr_add, Nat.zero_add, Nat.mul_one]; exact rowP.cell (h16.says (List.mem_cons_of_mem _ List.mem_cons_self)) hou, ?_⟩
      refine ⟨_, w16, row_string h16 (List.mem_cons_of_mem _ (List.mem_cons_of_mem _ (List.mem_map.2 ⟨rs[i], List.getElem_mem hir, rfl⟩))), ?_⟩
      refine push1_t (i := Tryz.t9) (z := .string (ByteArray.mk #[])) (by kernel_rfl) (by kernel_rfl) (by kernel_rfl) (by kernel_rfl) (by kernel_rfl) (by kernel_rfl) h16 .head rfl (by omega) fun g2 cap2 w8 h8 => ⟨⟨i + 1, g2, cap2, ?_, by omega, ?_⟩, ?_⟩
      · rw [wrap64 _ (by omega) (by omega)]; rfl
      · have e1 : txts (F.take i) ++ [.string (strB rs[i].2.2)] = txts (F.take (i + 1)) := by
          have hiF : i < F.length := by omega
          have hg : F.getD i [] = F[i] := by simp [List.getD, hiF]
          rw [hall i hir, hg, List.take_add_one, List.getElem?_eq_getElem hiF]
          unfold txts
          rw [List.map_append]; rfl
        rw [e1] at h8
        exact h8
      · show ((L.length : Int) - IntKind.i64.wrap ((i : Int) + 1)).toNat < ((L.length : Int) - (i : Int)).toNat
        rw [wrap64 _ (by omega) (by omega)]; omega
    · have hie : i = L.length := by omega
      subst hie
      rw [List.take_of_length_le (by omega)] at h16
      obtain ⟨b, rfl⟩ : ∃ b, g = some b := rowP.pos (h16.says List.mem_cons_self) (by omega)
      refine .inl ⟨hk, hl2, b, cp, rfl, ?_⟩
      have h17 : T [] w w16 ([rowP 9 1 (some b) L.length cp (txts F)] ++ (rowP 33 1 (some bo) L.length cap (outV rs) :: outA rs)) := h16
      exact T.dropAll (h17.swap List.perm_append_comm)
end Go.Proofs.YtdfkifgkccnaiaaGreatDoor
