import Derived.Test.YtdfkifgkccnaiaaGreatDoorRt2
/-! The reference's refill: one place, by trying. -/
namespace Go.Proofs.YtdfkifgkccnaiaaGreatDoor
open Go.Sh Go.RowKit
set_option linter.unusedVariables false
set_option linter.unusedSimpArgs false
set_option maxRecDepth 20000
set_option maxHeartbeats 2000000
/-- the lost ones that are data -/
def dt (n : Nat) (l : List Int) : List Int := l.filter fun x => decide (x < (n : Int))
theorem dt_len (n : Nat) (l : List Int) : (dt n l).length ≤ l.length := List.length_filter_le _ _
theorem dt_mem {n : Nat} {l : List Int} {x : Int} : x ∈ dt n l ↔ x ∈ l ∧ x < n := by simp [dt]
/-- behind the trying -/
structure StageA (n : Nat) (lost : List Int) (f : Nat → UInt8) : Prop where
  one : ∀ x, dt n lost = [x] → ((n : Int) ∉ lost → PRel f n) ∧ ((n : Int) ∈ lost → QRel f n)
  two : (dt n lost).length = 2 → PRel f n ∧ QRel f n
def stP (n : Nat) (lost : List Int) (v : Txt) : Txt := if (n : Int) ∈ lost then v.set n (vf v n ^^^ pS v) else v
def stQ (n : Nat) (lost : List Int) (v u : Txt) : Txt := if ((n + 1 : Nat) : Int) ∈ lost then u.set (n + 1) (vf u (n + 1) ^^^ qS v) else u
theorem stP_len (n : Nat) (lost : List Int) (v : Txt) : (stP n lost v).length = v.length := by unfold stP; split <;> simp
theorem stQ_len (n : Nat) (lost : List Int) (v u : Txt) : (stQ n lost v u).length = u.length := by unfold stQ; split <;> simp
theorem filled_end {n : Nat} {lost : List Int} {v : Txt} (hv : v.length = n + 2) (hl2 : lost.length ≤ 2) (hnd : lost.Nodup) (hr : ∀ x ∈ lost, 0 ≤ x ∧ x < (n : Int) + 2) (hA : StageA n lost (vf v)) :
    Filled n lost (vf (stQ n lost v (stP n lost v))) := by
  have en : v.length - 2 = n := by omega
  have en1 : v.length - 1 = n + 1 := by omega
  have hu := stP_len n lost v
  have uP : (n : Int) ∈ lost ∨ PRel (vf v) n → PRel (vf (stP n lost v)) n := fun h => by
    unfold stP
    by_cases hm : (n : Int) ∈ lost
    · rw [if_pos hm]
      have := fix_p (v := v) (by omega)
      rw [en] at this; exact this
    · rw [if_neg hm]
      exact h.resolve_left hm
  have uQ : QRel (vf v) n → QRel (vf (stP n lost v)) n := fun h => by
    unfold stP
    by_cases hm : (n : Int) ∈ lost
    · rw [if_pos hm]
      have := fix_p_q (v := v) (by omega) (vf v n ^^^ pS v) (by rw [en]; exact h)
      rw [en] at this; exact this
    · rw [if_neg hm]; exact h
  have us : ∀ c, c ≠ n → vf (stP n lost v) c = vf v c := fun c hc => by
    unfold stP
    split
    · exact vf_out (by omega) hc _
    · rfl
  have wP : (n : Int) ∈ lost ∨ PRel (vf v) n → PRel (vf (stQ n lost v (stP n lost v))) n := fun h => by
    have := uP h
    unfold stQ
    split
    · have h2 := fix_q_p (v := v) (u := stP n lost v) (by omega) hu (vf (stP n lost v) (n + 1) ^^^ qS v) (by rw [en]; exact this)
      rw [en, en1] at h2; exact h2
    · exact this
  have wQ : ((n + 1 : Nat) : Int) ∈ lost ∨ QRel (vf v) n → QRel (vf (stQ n lost v (stP n lost v))) n := fun h => by
    unfold stQ
    by_cases hm : ((n + 1 : Nat) : Int) ∈ lost
    · rw [if_pos hm]
      have h2 := fix_q (v := v) (u := stP n lost v) (by omega) hu (by rw [en]; exact us)
      rw [en, en1] at h2; exact h2
    · rw [if_neg hm]
      exact uQ (h.resolve_left hm)
  match lost, hl2, hnd, hr, hA with
  | [], _, _, _, _ => exact ⟨fun h => absurd h (by simp), fun i h => absurd h (by simp)⟩
  | [x], _, _, hr, hA =>
    obtain ⟨h0, h1⟩ := hr x (by simp)
    refine ⟨fun h => absurd h (by simp), fun i h => ?_⟩
    obtain rfl : x = (i : Int) := (List.cons.inj h).1
    refine ⟨fun hi => wP ?_, fun hi => wQ (.inl (by simp; omega))⟩
    by_cases e : i = n
    · exact .inl (by simp; omega)
    · refine .inr ((hA.one (i : Int) ?_).1 (by simp; omega))
      simp [dt]; omega
  | [x, y], _, hnd, hr, hA =>
    obtain ⟨h0, h1⟩ := hr x (by simp)
    obtain ⟨h2, h3⟩ := hr y (by simp)
    have hxy : x ≠ y := fun e => by simp [e] at hnd
    refine ⟨fun _ => ⟨wP ?_, wQ ?_⟩, fun i h => absurd h (by simp)⟩
    · by_cases hm : (n : Int) ∈ [x, y]
      · exact .inl hm
      · right
        have hm' : (n : Int) ≠ x ∧ (n : Int) ≠ y := by simpa using hm
        by_cases hx : x < n
        · by_cases hy : y < n
          · exact (hA.two (by simp [dt, hx, hy])).1
          · exact (hA.one x (by simp [dt, hx, hy])).1 hm
        · have hy : y < n := by omega
          exact (hA.one y (by simp [dt, hx, hy])).1 hm
    · by_cases hm : ((n + 1 : Nat) : Int) ∈ [x, y]
      · exact .inl hm
      · right
        have hm' : ((n + 1 : Nat) : Int) ≠ x ∧ ((n + 1 : Nat) : Int) ≠ y := by simpa using hm
        by_cases hx : x < n
        · by_cases hy : y < n
          · exact (hA.two (by simp [dt, hx, hy])).2
          · exact (hA.one x (by simp [dt, hx, hy])).2 (by simp; omega)
        · have hy : y < n := by omega
          exact (hA.one y (by simp [dt, hx, hy])).2 (by simp; omega)
theorem out_end {n : Nat} {lost : List Int} {v : Txt} (hv : v.length = n + 2) (c : Nat) (hc : (c : Int) ∉ lost) : vf (stQ n lost v (stP n lost v)) c = vf v c := by
  have hu := stP_len n lost v
  have e1 : vf (stP n lost v) c = vf v c := by
    unfold stP
    split
    · rename_i hm
      exact vf_out (by omega) (fun e => hc (by rw [e]; exact hm)) _
    · rfl
  unfold stQ
  split
  · rename_i hm
    rw [vf_out (by omega) (fun e => hc (by rw [e]; exact hm)), e1]
  · exact e1
/-- the byte that is tried -/
theorem try_iff {i : Nat} (hi : i < 256) {x : UInt8} : (UInt8.ofNat i = x) ↔ i = x.toNat := by
  constructor
  · intro h
    rw [← h, UInt8.toNat_ofNat']
    exact (Nat.mod_eq_of_lt hi).symm
  · intro h
    rw [h]; simp
theorem u8_inj {x y : UInt8} : ((x.toNat : Nat) : Int) = ((y.toNat : Nat) : Int) ↔ x = y := ⟨fun h => UInt8.toNat_inj.1 (by omega), fun h => by rw [h]⟩
theorem ofNat_int {i : Nat} (hi : i < 256) : IntKind.u8.wrap (i : Int) = ((UInt8.ofNat i).toNat : Int) := by
  rw [wrap8, UInt8.toNat_ofNat', Nat.mod_eq_of_lt hi]; omega
/-- what is found by Q alone -/
theorem solve_q {d : Nat} (hd : d < 255) (q : UInt8) : ∃ s : UInt8, ∀ x, mulG x (ex d) = q ↔ x = s := by
  refine ⟨mulG q (exI (0 - (d : Int))), fun x => ?_⟩
  have h := exI_back hd q
  rw [mulG_ex]
  constructor
  · intro hx
    exact xp_inj (k := d) (by rw [h, hx])
  · intro hx
    rw [hx, h]
theorem solve_pq {d k : Nat} (hd : d < 255) (hk : k < 255) (hdk : d ≠ k) (p q : UInt8) : ∃ s : UInt8, ∀ x, mulG x (ex d) ^^^ mulG (x ^^^ p) (ex k) = q ↔ x = s := by
  have hs := ex_sum_ne hd hk hdk
  have e : ∀ x, mulG x (ex d) ^^^ mulG (x ^^^ p) (ex k) = q ↔ mulG x (ex d ^^^ ex k) = q ^^^ mulG p (ex k) := fun x => by
    rw [mulG_xor, mulG_xor', ← UInt8.xor_assoc]
    generalize mulG x (ex d) ^^^ mulG x (ex k) = a
    generalize mulG p (ex k) = b
    constructor
    · intro h; rw [← h, UInt8.xor_assoc, UInt8.xor_self, UInt8.xor_zero]
    · intro h; rw [h, UInt8.xor_assoc, UInt8.xor_self, UInt8.xor_zero]
  refine ⟨mulG (q ^^^ mulG p (ex k)) (invG (ex d ^^^ ex k)), fun x => ?_⟩
  rw [e]
  have h := mulG_back hs (q ^^^ mulG p (ex k))
  constructor
  · intro hx
    exact mulG_inj hs (by rw [h, hx])
  · intro hx
    rw [hx, h]
theorem one_spec {v : Txt} {n : Nat} (hv : v.length = n + 2) (h2 : 2 ≤ n) (h10 : n ≤ 8) {lost : List Int} (hl2 : lost.length ≤ 2) (hnd : lost.Nodup) (hr : ∀ x ∈ lost, 0 ≤ x ∧ x < (n : Int) + 2) (hz : ∀ c : Nat, (c : Int) ∈ lost → vf v c = 0) {b cap d : Nat} {w0 w : World} {Γ : List A} {q : Option Addr} (hq : intsL w0 q lost)
    (hT : T [] w0 w (rowP 5 1 (some b) (n + 2) cap (bvals v) :: Γ)) :
    Calls Tryz.prog 57 #[.slice (some ⟨b, 0, none⟩) (n + 2) cap, .slice q lost.length d] w fun e w' => ∃ v' : Txt, e = .returned (.slice (some ⟨b, 0, none⟩) (n + 2) cap) ∧ v'.length = n + 2 ∧ (∀ c : Nat, (c : Int) ∉ lost → vf v' c = vf v c) ∧ Filled n lost (vf v') ∧ T [] w0 w' (rowP 5 1 (some b) (n + 2) cap (bvals v') :: Γ) := by
  refine (revetmentref06_one_calls (R := fun u w' => ∃ v' : Txt, u = .slice (some ⟨b, 0, none⟩) (n + 2) cap ∧ v'.length = n + 2 ∧ (∀ c : Nat, (c : Int) ∉ lost → vf v' c = vf v c) ∧ Filled n lost (vf v') ∧ T [] w0 w' (rowP 5 1 (some b) (n + 2) cap (bvals v') :: Γ)) ?_).mono fun e w' ⟨u, he, v', hu, h⟩ => ⟨v', by rw [he, hu], h⟩
  unfold revetmentref06_one
  have en : v.length - 2 = n := by omega
  have e1 : IntKind.i64.wrap (((n + 2 : Nat) : Int) - 2) = ((n : Nat) : Int) := by rw [wrap64 _ (by omega) (by omega)]; omega
  have e2 : IntKind.i64.wrap ((n : Int) + 1) = ((n + 1 : Nat) : Int) := by rw [wrap64 _ (by omega) (by omega)]; omega
  simp only [e1, e2]
  refine (sums_spec (by omega) (by omega) hT List.mem_cons_self).mono fun e w1 ⟨he, hx1⟩ => ⟨_, _, he, ?_⟩
  refine Alloc.t (hT.quiet hx1) fun k21 w2 h2' => ?_
  have h2' : T [] w0 w2 (rowP 3 1 (some k21) 0 0 (intsI (dt n (lost.take 0))) :: rowP 5 1 (some b) (n + 2) cap (bvals v) :: Γ) := blk_row h2' rfl rfl (by decide)
  refine ⟨fun vs w' => ∃ (i : Nat) (g : Option Nat) (cd : Nat), vs = [.slice (ptr g) (dt n (lost.take i)).length cd, .int .i64 (i : Int)] ∧ i ≤ lost.length ∧ T [] w0 w' (rowP 3 1 g (dt n (lost.take i)).length cd (intsI (dt n (lost.take i))) :: rowP 5 1 (some b) (n + 2) cap (bvals v) :: Γ), fun vs _ => match vs with | [_, .int _ i] => (lost.length - i).toNat | _ => 0, ⟨0, some k21, 0, rfl, by omega, h2'⟩, ?_⟩
  rintro vs w3 ⟨i, g, cd, rfl, hi, h3⟩
  refine ⟨_, _, _, _, rfl, dec_t fun hlt => ?_, dec_f fun hge => ?_⟩
  · have hlt : i < lost.length := by omega
    obtain ⟨a, ha, hc⟩ := (hq.ext h3.chg.ext).get hlt
    have hg : lost.getD i 0 = lost[i] := by simp [List.getD, hlt]
    rw [hg] at hc
    have hms : ((lost.length : Int) - IntKind.i64.wrap ((i : Int) + 1)).toNat < ((lost.length : Int) - (i : Int)).toNat := by rw [wrap64 _ (by omega) (by omega)]; omega
    have hnx : IntKind.i64.wrap ((i : Int) + 1) = ((i + 1 : Nat) : Int) := by rw [wrap64 _ (by omega) (by omega)]; omega
    have htk : lost.take (i + 1) = lost.take i ++ [lost[i]] := by rw [List.take_add_one, List.getElem?_eq_getElem hlt]; rfl
    refine ⟨a, ha, by omega, by omega, _, by rw [Int.toNat_natCast]; exact hc, dec_t fun hln => ?_, dec_f fun hln => ?_⟩
    · have hdt : dt n (lost.take (i + 1)) = dt n (lost.take i) ++ [lost[i]] := by
        rw [htk]; unfold dt; rw [List.filter_append]; congr 1; simp [hln]
      refine ⟨a, ha, by omega, by omega, _, by rw [Int.toNat_natCast]; exact hc, ?_⟩
      have hdl := dt_len n (lost.take i)
      rw [List.length_take] at hdl
      refine push1_t (i := Tryz.t3) (z := .int .i64 0) (by kernel_rfl) (by kernel_rfl) (by kernel_rfl) (by kernel_rfl) (by kernel_rfl) (by kernel_rfl) h3 .head rfl (by omega) fun g2 cap2 w8 h8 => ⟨⟨i + 1, g2, cap2, ?_, by omega, ?_⟩, hms⟩
      · rw [hnx, hdt]; simp
      · have e3 : intsI (dt n (lost.take i)) ++ [.int .i64 lost[i]] = intsI (dt n (lost.take (i + 1))) := by rw [hdt]; simp [intsI]
        rw [e3] at h8
        have e4 : (dt n (lost.take (i + 1))).length = (dt n (lost.take i)).length + 1 := by rw [hdt]; simp
        rw [e4]; exact h8
    · have hdt : dt n (lost.take (i + 1)) = dt n (lost.take i) := by
        rw [htk]; unfold dt; rw [List.filter_append]; simp [hln]
      refine ⟨⟨i + 1, g, cd, ?_, by omega, ?_⟩, hms⟩
      · rw [hnx, hdt]
      · rw [hdt]; exact h3
  · have hie : i = lost.length := by omega
    subst hie
    rw [List.take_length] at h3 ⊢
    refine Join.intro fun J hJ => ?_
    have main : ∀ (v' : Txt) (w6 : World), v'.length = n + 2 → (∀ c : Nat, (c : Int) ∉ lost → vf v' c = vf v c) → StageA n lost (vf v') → T [] w0 w6 (rowP 3 1 g (dt n lost).length cd (intsI (dt n lost)) :: rowP 5 1 (some b) (n + 2) cap (bvals v') :: Γ) → J [] w6 := by
      intro v' w6 hv' hout hA h6
      have h6 := T.dropAt h6 .head
      refine hJ _ _ ⟨rfl, (sums_spec (by omega) (by omega) h6 List.mem_cons_self).mono fun e w7 ⟨he, hx7⟩ => ⟨_, _, he, Join.intro fun J1 hJ1 => ?_⟩⟩
      have h7 := h6.quiet hx7
      have main2 : ∀ w8, T [] w0 w8 (rowP 5 1 (some b) (n + 2) cap (bvals (stP n lost v')) :: Γ) → J1 [] w8 := by
        intro w8 h8
        have hpl := stP_len n lost v'
        refine hJ1 _ _ ⟨rfl, (has_spec (l := lost) (by omega) ((n + 1 : Nat) : Int) (c := d) (hq.ext h8.chg.ext)).mono fun e w9 ⟨he, hx9⟩ => ⟨_, he, dec_t fun hm => ?_, dec_f fun hm => ?_⟩⟩
        · refine ⟨_, rfl, by omega, by omega, _, by rw [Int.toNat_natCast]; exact row_byte (h8.quiet hx9) List.mem_cons_self (by omega), _, rfl, by omega, by omega, ?_⟩
          rw [u8_xor, Int.toNat_natCast]
          refine StB.t (h8.quiet hx9) .head (by omega) fun w10 h10 => ?_
          have e3 : stQ n lost v' (stP n lost v') = (stP n lost v').set (n + 1) (vf (stP n lost v') (n + 1) ^^^ qS v') := if_pos hm
          rw [← e3] at h10
          exact ⟨_, trivial, by rw [stQ_len, hpl, hv'], fun c hc => by rw [out_end hv' c hc, hout c hc], filled_end hv' hl2 hnd hr hA, h10⟩
        · have e3 : stQ n lost v' (stP n lost v') = stP n lost v' := if_neg hm
          exact ⟨stQ n lost v' (stP n lost v'), trivial, by rw [stQ_len, hpl, hv'], fun c hc => by rw [out_end hv' c hc, hout c hc], filled_end hv' hl2 hnd hr hA, by rw [e3]; exact h8.quiet hx9⟩
      refine (has_spec (l := lost) (by omega) (n : Int) (c := d) (hq.ext h7.chg.ext)).mono fun e w11 ⟨he, hx11⟩ => ⟨_, he, dec_t fun hm => ?_, dec_f fun hm => ?_⟩
      · refine ⟨_, rfl, by omega, by omega, _, by rw [Int.toNat_natCast]; exact row_byte (h7.quiet hx11) List.mem_cons_self (by omega), _, rfl, by omega, by omega, ?_⟩
        rw [u8_xor, Int.toNat_natCast]
        refine StB.t (h7.quiet hx11) .head (by omega) fun w12 h12 => main2 w12 ?_
        have e3 : stP n lost v' = v'.set n (vf v' n ^^^ pS v') := if_pos hm
        rw [e3]; exact h12
      · have e3 : stP n lost v' = v' := if_neg hm
        exact main2 w11 (by rw [e3]; exact h7.quiet hx11)
    have hdm : ∀ x, x ∈ dt n lost ↔ x ∈ lost ∧ x < n := fun x => dt_mem
    have hdnd : (dt n lost).Nodup := hnd.filter _
    have hdl := dt_len n lost
    generalize hD : dt n lost = D at h3 main hdm hdnd hdl
    refine ⟨beq_t fun hl1 => ?_, beq_f fun hl1 => ⟨beq_t fun h => absurd h hl1, beq_f fun _ => ⟨beq_t fun hl2' => ?_, beq_f fun hl2' => ?_⟩⟩⟩
    · obtain ⟨x, rfl⟩ : ∃ x, D = [x] := by
        match D, hl1 with
        | [x], _ => exact ⟨x, rfl⟩
        | [], h => simp at h
        | _ :: _ :: _, h => simp at h; omega
      obtain ⟨hxm, hxn⟩ := (hdm x).1 (by simp)
      have hx0 := (hr x hxm).1
      obtain ⟨dd, rfl⟩ : ∃ dd : Nat, x = (dd : Int) := ⟨x.toNat, by omega⟩
      have hddn : dd < n := by omega
      obtain ⟨kd, rfl⟩ : ∃ kd, g = some kd := rowP.pos (h3.says List.mem_cons_self) (by simp)
      have cellD : ∀ {w' : World} {v' : Txt}, T [] w0 w' (rowP 3 1 (some kd) [(dd : Int)].length cd (intsI [(dd : Int)]) :: rowP 5 1 (some b) (n + 2) cap (bvals v') :: Γ) → w'.cell? ⟨kd, 0, none⟩ = some (.int .i64 (dd : Int)) := fun h => rowP.cell (h.says List.mem_cons_self) rfl
      have hzd := hz dd hxm
      refine (has_spec (l := lost) (by omega) (n : Int) (c := d) (hq.ext h3.chg.ext)).mono fun e w13 ⟨he, hx13⟩ => ?_
      have h13 := h3.quiet hx13
      refine ⟨_, he, fun hb => ?_, fun hb => ⟨beq_t fun _ => ?_, beq_f fun h => absurd rfl h⟩⟩
      · have hm : (n : Int) ∉ lost := by simpa using hb
        refine ⟨_, rfl, by omega, by simp, _, cellD h13, _, rfl, by omega, by omega, ?_⟩
        rw [Int.toNat_natCast]
        refine StB.t h13 (.tail .head) (by omega) fun w14 h14 => ?_
        refine main (v.set dd (pS v)) w14 (by simp [hv]) (fun c hc => vf_out (by omega) (fun e => hc (by rw [e]; exact hxm)) _) ⟨fun y hy => ⟨fun _ => ?_, fun h => absurd h hm⟩, fun h => by rw [hD] at h; simp at h⟩ (h14.swap (.swap _ _ _))
        have := put_p (v := v) (d := dd) (by omega) hzd
        rw [en] at this; exact this
      · have hm : (n : Int) ∈ lost := by simpa using hb
        obtain ⟨s, hs⟩ := solve_q (d := dd) (by omega) (qS v)
        refine ⟨fun vs w' => ∃ i : Nat, vs = [.int .i64 (i : Int)] ∧ i ≤ 256 ∧ T [] w0 w' (rowP 3 1 (some kd) [(dd : Int)].length cd (intsI [(dd : Int)]) :: rowP 5 1 (some b) (n + 2) cap (bvals (if s.toNat < i then v.set dd s else v)) :: Γ), fun vs _ => match vs with | [.int _ i] => (256 - i).toNat | _ => 0, ⟨0, rfl, by omega, by rw [if_neg (by omega)]; exact h13⟩, ?_⟩
        rintro vs w15 ⟨i, rfl, hi, h15⟩
        refine ⟨_, rfl, dec_t fun hlt => ?_, dec_f fun hge => ?_⟩
        · have hlt : i < 256 := by omega
          have hms : ((256 : Int) - IntKind.i64.wrap ((i : Int) + 1)).toNat < ((256 : Int) - (i : Int)).toNat := by rw [wrap64 _ (by omega) (by omega)]; omega
          have hnx : IntKind.i64.wrap ((i : Int) + 1) = ((i + 1 : Nat) : Int) := by rw [wrap64 _ (by omega) (by omega)]; omega
          refine ⟨_, rfl, by omega, by simp, _, cellD h15, ?_⟩
          refine (expR_spec (dd : Int) _).mono fun e w16 ⟨he, hx16⟩ => ⟨_, he, ?_⟩
          rw [exI_pos (by omega), ofNat_int hlt]
          refine (mulR_spec (UInt8.ofNat i) (ex dd) w16).mono fun e w17 ⟨he, hx17⟩ => ⟨_, he, beq_t fun hy => ?_, beq_f fun hn => ?_⟩
          · have h17 := h15.quiet (hx16.trans hx17)
            have hsi : UInt8.ofNat i = s := (hs _).1 (u8_inj.1 hy)
            have his := (try_iff hlt).1 hsi
            refine ⟨_, rfl, by omega, by simp, _, cellD h17, _, rfl, by omega, by omega, ?_⟩
            rw [Int.toNat_natCast]
            refine StB.t h17 (.tail .head) (by split <;> (try simp only [List.length_set]) <;> omega) fun w18 h18 => ⟨⟨i + 1, by rw [hnx], by omega, ?_⟩, hms⟩
            rw [if_neg (by omega), hsi] at h18
            rw [if_pos (by omega)]
            exact h18.swap (.swap _ _ _)
          · have hsi : i ≠ s.toNat := fun e => hn (u8_inj.2 ((hs _).2 ((try_iff hlt).2 e)))
            refine ⟨⟨i + 1, by rw [hnx], by omega, ?_⟩, hms⟩
            have : (s.toNat < i + 1) = (s.toNat < i) := by apply propext; omega
            simp only [this]
            exact h15.quiet (hx16.trans hx17)
        · have hie : i = 256 := by omega
          subst hie
          rw [if_pos s.toNat_lt] at h15
          refine main (v.set dd s) w15 (by simp [hv]) (fun c hc => vf_out (by omega) (fun e => hc (by rw [e]; exact hxm)) _) ⟨fun y hy => ⟨fun h => absurd hm h, fun _ => ?_⟩, fun h => by rw [hD] at h; simp at h⟩ h15
          have := put_q (v := v) (d := dd) (x := s) (by omega) hzd (by rw [← mulG_ex]; exact (hs s).2 rfl)
          rw [en] at this; exact this
    · obtain ⟨x, y, rfl⟩ : ∃ x y, D = [x, y] := by
        match D, hl2' with
        | [x, y], _ => exact ⟨x, y, rfl⟩
        | [], h => simp at h
        | [_], h => simp at h
        | _ :: _ :: _ :: _, h => simp at h; omega
      obtain ⟨hxm, hxn⟩ := (hdm x).1 (by simp)
      obtain ⟨hym, hyn⟩ := (hdm y).1 (by simp)
      have hx0 := (hr x hxm).1
      have hy0 := (hr y hym).1
      obtain ⟨dd, rfl⟩ : ∃ dd : Nat, x = (dd : Int) := ⟨x.toNat, by omega⟩
      obtain ⟨kk, rfl⟩ : ∃ kk : Nat, y = (kk : Int) := ⟨y.toNat, by omega⟩
      have hddn : dd < n := by omega
      have hkkn : kk < n := by omega
      have hdk : dd ≠ kk := fun e => by simp [e] at hdnd
      obtain ⟨kd, rfl⟩ : ∃ kd, g = some kd := rowP.pos (h3.says List.mem_cons_self) (by simp)
      have cell0 : ∀ {w' : World} {v' : Txt}, T [] w0 w' (rowP 3 1 (some kd) [(dd : Int), (kk : Int)].length cd (intsI [(dd : Int), (kk : Int)]) :: rowP 5 1 (some b) (n + 2) cap (bvals v') :: Γ) → w'.cell? ⟨kd, 0, none⟩ = some (.int .i64 (dd : Int)) := fun h => rowP.cell (h.says List.mem_cons_self) rfl
      have cell1 : ∀ {w' : World} {v' : Txt}, T [] w0 w' (rowP 3 1 (some kd) [(dd : Int), (kk : Int)].length cd (intsI [(dd : Int), (kk : Int)]) :: rowP 5 1 (some b) (n + 2) cap (bvals v') :: Γ) → w'.cell? (Addr.add ⟨kd, 0, none⟩ 1) = some (.int .i64 (kk : Int)) := fun h => by
        rw [addr_add]
        exact rowP.cell (h.says List.mem_cons_self) rfl
      obtain ⟨s, hs⟩ := solve_pq (d := dd) (k := kk) (by omega) (by omega) hdk (pS v) (qS v)
      refine ⟨fun vs w' => ∃ i : Nat, vs = [.int .i64 (i : Int)] ∧ i ≤ 256 ∧ T [] w0 w' (rowP 3 1 (some kd) [(dd : Int), (kk : Int)].length cd (intsI [(dd : Int), (kk : Int)]) :: rowP 5 1 (some b) (n + 2) cap (bvals (if s.toNat < i then (v.set dd s).set kk (s ^^^ pS v) else v)) :: Γ), fun vs _ => match vs with | [.int _ i] => (256 - i).toNat | _ => 0, ⟨0, rfl, by omega, by rw [if_neg (by omega)]; exact h3⟩, ?_⟩
      rintro vs w15 ⟨i, rfl, hi, h15⟩
      refine ⟨_, rfl, dec_t fun hlt => ?_, dec_f fun hge => ?_⟩
      · have hlt : i < 256 := by omega
        have hms : ((256 : Int) - IntKind.i64.wrap ((i : Int) + 1)).toNat < ((256 : Int) - (i : Int)).toNat := by rw [wrap64 _ (by omega) (by omega)]; omega
        have hnx : IntKind.i64.wrap ((i : Int) + 1) = ((i + 1 : Nat) : Int) := by rw [wrap64 _ (by omega) (by omega)]; omega
        refine ⟨fun w' => T [] w0 w' (rowP 3 1 (some kd) [(dd : Int), (kk : Int)].length cd (intsI [(dd : Int), (kk : Int)]) :: rowP 5 1 (some b) (n + 2) cap (bvals (if s.toNat < i then (v.set dd s).set kk (s ^^^ pS v) else v)) :: Γ), h15.drew, _, rfl, by omega, by simp, _, fun w' h => cell0 h, ?_⟩
        refine (expR_spec (dd : Int) _).mono fun e w16 ⟨he, hx16⟩ => ⟨_, he, h15.drew.quiet hx16, ?_⟩
        rw [exI_pos (show dd < 255 by omega), ofNat_int hlt]
        refine (mulR_spec (UInt8.ofNat i) (ex dd) w16).mono fun e w17 ⟨he, hx17⟩ => ⟨_, he, h15.drew.quiet (hx16.trans hx17), _, rfl, by omega, by simp, _, fun w' h => cell1 h, ?_⟩
        refine (expR_spec (kk : Int) _).mono fun e w18 ⟨he, hx18⟩ => ⟨_, he, h15.drew.quiet ((hx16.trans hx17).trans hx18), ?_⟩
        rw [exI_pos (show kk < 255 by omega), u8_xor]
        refine (mulR_spec (UInt8.ofNat i ^^^ pS v) (ex kk) w18).mono fun e w19 ⟨he, hx19⟩ => ?_
        have h19 := h15.drew.quiet (((hx16.trans hx17).trans hx18).trans hx19)
        refine ⟨_, he, h19, ?_⟩
        rw [u8_xor]
        refine ⟨beq_t fun hy => ?_, beq_f fun hn => ?_⟩
        · have hsi : UInt8.ofNat i = s := (hs _).1 (u8_inj.1 hy)
          have his := (try_iff hlt).1 hsi
          refine ⟨_, rfl, by omega, by simp, _, cell0 h19, _, rfl, by omega, by omega, ?_⟩
          rw [Int.toNat_natCast]
          refine StB.t h19 (.tail .head) (by split <;> (try simp only [List.length_set]) <;> omega) fun w24 h24 => ?_
          have h24 := h24.swap (.swap _ _ _)
          rw [if_neg (by omega), hsi] at h24
          rw [hsi]
          refine ⟨_, rfl, by omega, by simp, _, cell1 h24, _, rfl, by omega, by omega, ?_⟩
          rw [Int.toNat_natCast]
          refine StB.t h24 (.tail .head) (by simp; omega) fun w25 h25 => ⟨⟨i + 1, by rw [hnx], by omega, ?_⟩, hms⟩
          rw [if_pos (by omega)]
          exact h25.swap (.swap _ _ _)
        · have hsi : i ≠ s.toNat := fun e => hn (u8_inj.2 ((hs _).2 ((try_iff hlt).2 e)))
          refine ⟨⟨i + 1, by rw [hnx], by omega, ?_⟩, hms⟩
          have : (s.toNat < i + 1) = (s.toNat < i) := by apply propext; omega
          simp only [this]
          exact h19
      · have hie : i = 256 := by omega
        subst hie
        rw [if_pos s.toNat_lt] at h15
        refine main ((v.set dd s).set kk (s ^^^ pS v)) w15 (by simp [hv]) (fun c hc => by rw [vf_out (by simp; omega) (fun e => hc (by rw [e]; exact hym)), vf_out (by omega) (fun e => hc (by rw [e]; exact hxm))]) ⟨fun y hy => by rw [hD] at hy; simp at hy, fun _ => ?_⟩ h15
        have := put_pq (v := v) (d := dd) (k := kk) (x := s) (by omega) (by omega) hdk (hz dd hxm) (hz kk hym) (by rw [← mulG_ex, ← mulG_ex]; exact (hs s).2 rfl)
        rw [en] at this; exact this
    · have hD0 : D = [] := by
        match D, hl1, hl2', hdl with
        | [], _, _, _ => rfl
        | [_], h, _, _ => simp at h
        | [_, _], _, h, _ => simp at h
        | _ :: _ :: _ :: _, _, _, h => simp at h; omega
      subst hD0
      exact main v w3 hv (fun c _ => rfl) ⟨fun y hy => by rw [hD] at hy; simp at hy, fun h => by rw [hD] at h; simp at h⟩ h3
end Go.Proofs.YtdfkifgkccnaiaaGreatDoor
